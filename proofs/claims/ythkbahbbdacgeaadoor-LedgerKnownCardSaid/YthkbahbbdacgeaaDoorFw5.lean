/- The framework, part 5: what a step does to the relation; loads and stores are as the evaluator says. -/
import Derived.Test.YthkbahbbdacgeaaDoorFw4
set_option linter.unusedSimpArgs false
namespace Stk
open Go

theorem mapRel_mono {m m' : Nat → Option (List Value)} (hm : MemLe m m') : ∀ {es : List (Tr × Tr)} {ents : List MapEntry}, mapRel m es ents → mapRel m' es ents
  | [], _, h => h
  | (x, v) :: r, es, h => by
    simp only [mapRel] at h ⊢
    obtain ⟨me, es', h1, h2, h3, h4⟩ := h
    refine ⟨me, es', h1, ?_, ?_, mapRel_mono hm h4⟩
    · split at h2
      · obtain ⟨cs, hk, hr⟩ := h2; exact ⟨cs, hk, Tr.rel_mono hm hr⟩
      · exact Tr.rel_mono hm h2
    · split at h3
      · obtain ⟨cs, hk, hr⟩ := h3; exact ⟨cs, hk, Tr.rel_mono hm hr⟩
      · exact Tr.rel_mono hm h3

theorem AO.rel_to {e e' : Env} (h : Env.To id e e') {esz cap : Nat} {n : Option Nat} {o : AO} {ob : Obj} (ho : o.rel e esz cap n ob) : o.rel e' esz cap n ob := by
  cases o with
  | var v => obtain ⟨h0, h00, cs, t, fz, h1, h2, h3⟩ := ho; exact ⟨h0, h00, cs, t, fz, h1, AV.rel_to h h2, h3⟩
  | row es xs => obtain ⟨h1, h0, cs, t, fz, h2, h3, h4, h5, h6, mid, post, h7, h8⟩ := ho; exact ⟨h1, h0, cs, t, fz, h2, h3, h4, h5, h6, mid, post, h7, Tr.row_mono h.ro h8⟩
  | map es => obtain ⟨h0, ents, cl, h1, h2⟩ := ho; exact ⟨h0, ents, cl, h1, mapRel_mono h.ro h2⟩
  | gone => trivial

theorem lt_of_heap {w : World} {k : Nat} {ob : Obj} (h : w.heap[k]? = some ob) : k < w.heap.size := by
  rcases Nat.lt_or_ge k w.heap.size with h' | h'
  · exact h'
  · simp [Array.getElem?_eq_none h'] at h
theorem lt_of_get {α : Type} {l : List α} {k : Nat} {x : α} (h : l[k]? = some x) : k < l.length := by
  rcases Nat.lt_or_ge k l.length with h' | h'
  · exact h'
  · simp [List.getElem?_eq_none h'] at h

theorem live_set {H : Hp} {b : Nat} {o : AO} {b' : Nat} (h : live (H.set b o) b') (hb : live H b) : live H b' := by
  obtain ⟨x, hx, hg⟩ := h
  rw [List.getElem?_set] at hx
  by_cases e : b = b'
  · subst e; exact hb
  · rw [if_neg e] at hx; exact ⟨x, hx, hg⟩

variable {G : Gl} {e : Env} {H : Hp} {w : World}

/-- An object and its block are written. -/
theorem Step.set (hr : Rel G e H w) {b : Nat} {o o' : AO} {blk esz cap : Nat} {n : Option Nat} {ob' : Obj} (hb : H[b]? = some o) (ho : o ≠ .gone) (hβ : e.β b = .at blk esz cap n)
    (ho' : o'.rel e esz cap n ob') : Step G e H w e (H.set b o') (World.setBlk w blk ob') := by
  have hlive : live H b := ⟨o, hb, ho⟩
  obtain ⟨ob, hob, _⟩ := hr.obj b o hb ho blk esz cap n hβ
  have hlt := lt_of_heap hob
  have hbl := lt_of_get hb
  refine ⟨⟨?_, ?_, ?_, ?_, ?_, ?_, ?_, ?_⟩, Env.Le.refl _ _, by simp, ⟨rfl, rfl, rfl, by rw [setBlk_size]; exact Nat.le_refl _, ?_⟩, ?_, fun _ _ h _ => .inl h⟩
  · intro b1 o1 h1 hg blk1 s1 c1 n1 hβ1
    rw [List.getElem?_set] at h1
    by_cases e1 : b = b1
    · subst e1
      rw [if_pos rfl, if_pos hbl] at h1
      obtain rfl := Option.some.inj h1
      rw [hβ] at hβ1
      obtain ⟨rfl, rfl, rfl, rfl⟩ := Bind.at.inj hβ1
      exact ⟨ob', by rw [setBlk_get, if_pos ⟨rfl, hlt⟩], ho'⟩
    · rw [if_neg e1] at h1
      obtain ⟨ob1, hob1, hrel1⟩ := hr.obj b1 o1 h1 hg blk1 s1 c1 n1 hβ1
      refine ⟨ob1, ?_, hrel1⟩
      rw [setBlk_get, if_neg]
      · exact hob1
      · rintro ⟨rfl, _⟩
        exact e1 (hr.inj b b1 hlive ⟨o1, h1, hg⟩ _ _ _ _ _ _ _ hβ hβ1)
  · intro b1 o1 h1 hg hv
    rw [List.getElem?_set] at h1
    by_cases e1 : b = b1
    · subst e1; rw [hβ] at hv; cases hv
    · rw [if_neg e1] at h1; exact hr.virt b1 o1 h1 hg hv
  · intro b1 h1; exact hr.bound b1 (by simpa using h1)
  · intro b1 h1; simpa using hr.dom b1 h1
  · intro b1 b2 h1 h2; exact hr.inj b1 b2 (live_set h1 hlive) (live_set h2 hlive)
  · intro b1 h1; exact hr.sep b1 (live_set h1 hlive)
  · intro k m hm
    obtain ⟨cs, t, fz, hk, hcs⟩ := hr.mem k m hm
    refine ⟨cs, t, fz, ?_, hcs⟩
    rw [setBlk_get, if_neg]
    · exact hk
    · rintro ⟨rfl, _⟩
      have := hr.sep b hlive _ _ _ _ hβ
      rcases hm with hm | hm
      · rw [this.1] at hm; cases hm
      · rw [this.2] at hm; cases hm
  · exact hr.gl
  · intro k hk hno
    rw [setBlk_get, if_neg]
    rintro ⟨rfl, _⟩
    exact hno ⟨b, hlive, esz, cap, n, hβ⟩
  · rintro k ⟨b1, hl1, s, c, n1, hβ1⟩ _
    exact ⟨b1, live_set hl1 hlive, s, c, n1, hβ1⟩

/-- A draw. -/
theorem Rel.drew (hr : Rel G e H w) : Rel G e H w.drew := ⟨hr.obj, hr.virt, hr.bound, hr.dom, hr.inj, hr.sep, hr.mem, hr.gl⟩
theorem Step.drew (hr : Rel G e H w) : Step G e H w e H w.drew :=
  ⟨hr.drew, Env.Le.refl _ _, Nat.le_refl _, ⟨rfl, rfl, rfl, Nat.le_refl _, fun _ _ _ => rfl⟩, fun _ h _ => h, fun _ _ h _ => .inl h⟩

/-- A name is used up. -/
theorem Rel.gone (hr : Rel G e H w) (b : Nat) : Rel G e (H.set b .gone) w := by
  have hget : ∀ b1 o1, (H.set b .gone)[b1]? = some o1 → o1 ≠ .gone → b1 ≠ b ∧ H[b1]? = some o1 := by
    intro b1 o1 h1 hg
    rw [List.getElem?_set] at h1
    by_cases e1 : b = b1
    · subst e1
      rw [if_pos rfl] at h1
      split at h1
      · exact absurd (Option.some.inj h1).symm hg
      · cases h1
    · rw [if_neg e1] at h1; exact ⟨fun e => e1 e.symm, h1⟩
  have hlive : ∀ b1, live (H.set b .gone) b1 → live H b1 := fun b1 ⟨o1, h1, hg⟩ => ⟨o1, (hget b1 o1 h1 hg).2, hg⟩
  refine ⟨?_, ?_, ?_, ?_, ?_, ?_, hr.mem, hr.gl⟩
  · intro b1 o1 h1 hg; exact hr.obj b1 o1 (hget b1 o1 h1 hg).2 hg
  · intro b1 o1 h1 hg; exact hr.virt b1 o1 (hget b1 o1 h1 hg).2 hg
  · intro b1 h1; exact hr.bound b1 (by simpa using h1)
  · intro b1 h1; simpa using hr.dom b1 h1
  · intro b1 b2 h1 h2; exact hr.inj b1 b2 (hlive b1 h1) (hlive b2 h2)
  · intro b1 h1; exact hr.sep b1 (hlive b1 h1)
theorem live_gone {b b1 : Nat} (h : live (H.set b .gone) b1) : live H b1 ∧ b1 ≠ b := by
  obtain ⟨o1, h1, hg⟩ := h
  rw [List.getElem?_set] at h1
  by_cases e1 : b = b1
  · subst e1
    rw [if_pos rfl] at h1
    split at h1
    · exact absurd (Option.some.inj h1).symm hg
    · cases h1
  · rw [if_neg e1] at h1; exact ⟨⟨o1, h1, hg⟩, fun e => e1 e.symm⟩
theorem Step.gone (hr : Rel G e H w) (b : Nat) : Step G e H w e (H.set b .gone) w :=
  ⟨hr.gone b, Env.Le.refl _ _, by simp, WLe.refl _ _, fun _ ⟨b1, hl, r⟩ _ => ⟨b1, (live_gone hl).1, r⟩, fun _ _ h _ => .inl h⟩

def Env.bind (e : Env) (n : Nat) (x : Bind) : Env := { e with β := fun b => if b = n then x else e.β b }
theorem Env.bind_same (e : Env) (n : Nat) (x : Bind) : (e.bind n x).β n = x := by simp [Env.bind]
theorem Env.bind_other (e : Env) (n : Nat) (x : Bind) {b : Nat} (h : b ≠ n) : (e.bind n x).β b = e.β b := by simp [Env.bind, h]
theorem Env.bind_le (e : Env) (n : Nat) (x : Bind) : Env.Le n e (e.bind n x) := ⟨fun b hb => e.bind_other n x (by omega), MemLe.refl _, rfl⟩

theorem get_snoc {H : Hp} {o : AO} {b : Nat} {o1 : AO} (h : (H ++ [o])[b]? = some o1) : (b < H.length ∧ H[b]? = some o1) ∨ (b = H.length ∧ o1 = o) := by
  rcases Nat.lt_trichotomy b H.length with hb | hb | hb
  · rw [List.getElem?_append_left hb] at h; exact .inl ⟨hb, h⟩
  · subst hb; rw [List.getElem?_append_right (Nat.le_refl _)] at h; simp at h; exact .inr ⟨rfl, h.symm⟩
  · rw [List.getElem?_append_right (by omega)] at h
    have : b - H.length ≠ 0 := by omega
    rw [List.getElem?_singleton, if_neg this] at h; cases h

/-- A new name for a block that no live name has. -/
theorem Rel.name (hr : Rel G e H w) {o : AO} {x : Bind} (hx : x ≠ .no)
    (hobj : ∀ blk esz cap n, x = .at blk esz cap n → (∃ ob, w.heap[blk]? = some ob ∧ o.rel e esz cap n ob) ∧ ¬ Owns e H blk ∧ e.ro blk = none ∧ e.bo blk = none)
    (hvirt : x = .virt → ∃ esz, o = .row esz []) : Rel G (e.bind H.length x) (H ++ [o]) w := by
  have hto : Env.To id e (e.bind H.length x) := (e.bind_le H.length x).to hr.dom
  have hold : ∀ b, b < H.length → (e.bind H.length x).β b = e.β b := fun b hb => e.bind_other _ _ (by omega)
  refine ⟨?_, ?_, ?_, ?_, ?_, ?_, ?_, ?_⟩
  · intro b o1 h1 hg blk esz cap n hβ
    rcases get_snoc h1 with ⟨hb, h1⟩ | ⟨rfl, rfl⟩
    · rw [hold b hb] at hβ
      obtain ⟨ob, h2, h3⟩ := hr.obj b o1 h1 hg blk esz cap n hβ
      exact ⟨ob, h2, AO.rel_to hto h3⟩
    · rw [Env.bind_same] at hβ
      obtain ⟨⟨ob, h2, h3⟩, _⟩ := hobj blk esz cap n hβ
      exact ⟨ob, h2, AO.rel_to hto h3⟩
  · intro b o1 h1 hg hβ
    rcases get_snoc h1 with ⟨hb, h1⟩ | ⟨rfl, rfl⟩
    · rw [hold b hb] at hβ; exact hr.virt b o1 h1 hg hβ
    · rw [Env.bind_same] at hβ; exact hvirt hβ
  · intro b hb
    rw [List.length_append, List.length_singleton] at hb
    by_cases hb' : b < H.length
    · rw [hold b hb']; exact hr.bound b hb'
    · obtain rfl : b = H.length := by omega
      rw [Env.bind_same]; exact hx
  · intro b hb
    rw [List.length_append, List.length_singleton]
    by_cases e1 : b = H.length
    · omega
    · rw [Env.bind_other _ _ _ e1] at hb; have := hr.dom b hb; omega
  · rintro b b' ⟨o1, h1, g1⟩ ⟨o2, h2, g2⟩ blk s c n s' c' n' hβ hβ'
    rcases get_snoc h1 with ⟨hb, h3⟩ | ⟨h3, h4⟩ <;> rcases get_snoc h2 with ⟨hb', h5⟩ | ⟨h5, h6⟩
    · rw [hold b hb] at hβ; rw [hold b' hb'] at hβ'
      exact hr.inj b b' ⟨o1, h3, g1⟩ ⟨o2, h5, g2⟩ _ _ _ _ _ _ _ hβ hβ'
    · rw [hold b hb] at hβ; rw [h5, Env.bind_same] at hβ'
      exact absurd ⟨b, ⟨o1, h3, g1⟩, s, c, n, hβ⟩ (hobj blk s' c' n' hβ').2.1
    · rw [hold b' hb'] at hβ'; rw [h3, Env.bind_same] at hβ
      exact absurd ⟨b', ⟨o2, h5, g2⟩, s', c', n', hβ'⟩ (hobj blk s c n hβ).2.1
    · rw [h3, h5]
  · rintro b ⟨o1, h1, g1⟩ blk s c n hβ
    rcases get_snoc h1 with ⟨hb, h1⟩ | ⟨rfl, rfl⟩
    · rw [hold b hb] at hβ; exact hr.sep b ⟨o1, h1, g1⟩ blk s c n hβ
    · rw [Env.bind_same] at hβ; exact (hobj blk s c n hβ).2.2
  · exact hr.mem
  · exact hr.gl

theorem live_snoc {o : AO} {b : Nat} (h : live (H ++ [o]) b) : (b < H.length ∧ live H b) ∨ b = H.length := by
  obtain ⟨o1, h1, g1⟩ := h
  rcases get_snoc h1 with ⟨hb, h1⟩ | ⟨rfl, rfl⟩
  · exact .inl ⟨hb, o1, h1, g1⟩
  · exact .inr rfl

/-- A world that has grown, and is what it was below. -/
theorem Rel.grow (hr : Rel G e H w) {w' : World} (hw : WLe (fun _ => True) w w') : Rel G e H w' := by
  have hk : ∀ k ob, w.heap[k]? = some ob → w'.heap[k]? = some ob := fun k ob h => (hw.frame k (lt_of_heap h) trivial).trans h
  refine ⟨?_, hr.virt, hr.bound, hr.dom, hr.inj, hr.sep, ?_, hr.gl⟩
  · intro b o h1 hg blk s c n hβ
    obtain ⟨ob, h2, h3⟩ := hr.obj b o h1 hg blk s c n hβ
    exact ⟨ob, hk _ _ h2, h3⟩
  · intro k m hm
    obtain ⟨cs, t, fz, h1, h2⟩ := hr.mem k m hm
    exact ⟨cs, t, fz, hk _ _ h1, h2⟩

theorem wle_alloc (w : World) (ob : Obj) : WLe (fun _ => True) w (w.alloc ob) :=
  ⟨rfl, rfl, rfl, by simp, fun k hk _ => by
    show (w.heap.push ob)[k]? = _
    rw [Array.getElem?_push, if_neg (by omega)]⟩
theorem heap_alloc (w : World) (ob : Obj) : (w.alloc ob).heap[w.heap.size]? = some ob := by
  show (w.heap.push ob)[w.heap.size]? = _
  simp

/-- A new block and its name. -/
theorem Step.new (hr : Rel G e H w) {o : AO} {ob : Obj} {esz cap : Nat} {n : Option Nat} (ho : o.rel e esz cap n ob) :
    Step G e H w (e.bind H.length (.at w.heap.size esz cap n)) (H ++ [o]) (w.alloc ob) := by
  have hw := wle_alloc w ob
  have hr' := hr.grow hw
  refine ⟨hr'.name (by simp) ?_ (by simp), e.bind_le _ _, by simp, hw.mono (fun _ _ => trivial), ?_, fun _ _ h _ => .inl h⟩
  · intro blk s c n1 hx
    obtain ⟨rfl, rfl, rfl, rfl⟩ := Bind.at.inj hx
    refine ⟨⟨ob, heap_alloc w ob, ho⟩, ?_, ?_, ?_⟩
    · rintro ⟨b, ⟨o1, h1, g1⟩, s, c, n1, hβ⟩
      obtain ⟨ob1, h2, _⟩ := hr.obj b o1 h1 g1 _ _ _ _ hβ
      exact absurd (lt_of_heap h2) (Nat.lt_irrefl _)
    · refine none_of fun m hm => ?_
      obtain ⟨cs, t, fz, h1, _⟩ := hr.mem _ _ (.inl hm)
      exact absurd (lt_of_heap h1) (Nat.lt_irrefl _)
    · refine none_of fun m hm => ?_
      obtain ⟨cs, t, fz, h1, _⟩ := hr.mem _ _ (.inr hm)
      exact absurd (lt_of_heap h1) (Nat.lt_irrefl _)
  · rintro k ⟨b, hl, s, c, n1, hβ⟩ hk
    rcases live_snoc hl with ⟨hb, hl⟩ | rfl
    · rw [Env.bind_other _ _ _ (by omega)] at hβ; exact ⟨b, hl, s, c, n1, hβ⟩
    · rw [Env.bind_same] at hβ
      obtain ⟨rfl, _, _, _⟩ := Bind.at.inj hβ
      exact absurd hk (Nat.lt_irrefl _)

/-- A new name of an empty slice of the own. -/
theorem Step.virt (hr : Rel G e H w) (esz : Nat) : Step G e H w (e.bind H.length .virt) (H ++ [.row esz []]) w := by
  refine ⟨hr.name (by simp) (by simp) (fun _ => ⟨esz, rfl⟩), e.bind_le _ _, by simp, WLe.refl _ _, ?_, fun _ _ h _ => .inl h⟩
  rintro k ⟨b, hl, s, c, n1, hβ⟩ _
  rcases live_snoc hl with ⟨hb, hl⟩ | rfl
  · rw [Env.bind_other _ _ _ (by omega)] at hβ; exact ⟨b, hl, s, c, n1, hβ⟩
  · rw [Env.bind_same] at hβ; cases hβ

/-- A block that a name has comes under a new one. -/
theorem Step.rename (hr : Rel G e H w) {b : Nat} {o : AO} {blk esz cap : Nat} {n : Option Nat} (hb : H[b]? = some o) (ho : o ≠ .gone) (hβ : e.β b = .at blk esz cap n) {o' : AO} {ob' : Obj} {n' : Option Nat}
    (ho' : o'.rel e esz cap n' ob') : Step G e H w (e.bind H.length (.at blk esz cap n')) (H.set b .gone ++ [o']) (World.setBlk w blk ob') := by
  have hlive : live H b := ⟨o, hb, ho⟩
  obtain ⟨ob, hob, _⟩ := hr.obj b o hb ho blk esz cap n hβ
  have hlt := lt_of_heap hob
  have s1 := Step.set hr (o' := .gone) (ob' := ob') hb ho hβ trivial
  have hsep := hr.sep b hlive _ _ _ _ hβ
  have r2 : Rel G (e.bind H.length (.at blk esz cap n')) (H.set b .gone ++ [o']) (World.setBlk w blk ob') := by
    have := s1.rel.name (o := o') (x := .at blk esz cap n') (by simp) ?_ (by simp)
    · simpa using this
    · intro blk1 s c n1 hx
      obtain ⟨rfl, rfl, rfl, rfl⟩ := Bind.at.inj hx
      refine ⟨⟨ob', by rw [setBlk_get, if_pos ⟨rfl, hlt⟩], ho'⟩, ?_, hsep⟩
      rintro ⟨b1, hl1, s, c, n1, hβ1⟩
      obtain ⟨hl, hne⟩ := live_gone hl1
      exact hne (hr.inj b1 b hl hlive _ _ _ _ _ _ _ hβ1 hβ)
  refine ⟨r2, e.bind_le _ _, by simp, s1.wle, ?_, fun _ _ h _ => .inl h⟩
  rintro k ⟨b1, hl, s, c, n1, hβ1⟩ _
  rcases live_snoc hl with ⟨hb1, hl⟩ | rfl
  · rw [List.length_set] at hb1
    rw [Env.bind_other _ _ _ (by omega)] at hβ1
    exact ⟨b1, (live_gone hl).1, s, c, n1, hβ1⟩
  · rw [List.length_set, Env.bind_same] at hβ1
    obtain ⟨rfl, _, _, _⟩ := Bind.at.inj hβ1
    exact ⟨b, hlive, esz, cap, n, hβ⟩

/-- A block becomes read-only. -/
def Env.freeze (e : Env) (k : Nat) (m : List Value) : Env := { e with ro := fun j => if j = k then some m else e.ro j }
theorem Step.freeze (hr : Rel G e H w) {b : Nat} {o : AO} {blk esz cap : Nat} {n : Option Nat} (hb : H[b]? = some o) (ho : o ≠ .gone) (hβ : e.β b = .at blk esz cap n)
    {cs : Array Value} {t : TypeId} {fz : Nat × Nat} (hk : w.heap[blk]? = some (.cells cs t fz)) : Step G e H w (e.freeze blk cs.toList) (H.set b .gone) w := by
  have hlive : live H b := ⟨o, hb, ho⟩
  have hsep := hr.sep b hlive _ _ _ _ hβ
  have hm : MemLe e.ro (e.freeze blk cs.toList).ro := by
    intro k m h
    by_cases e1 : k = blk
    · subst e1; rw [hsep.1] at h; cases h
    · simp [Env.freeze, e1, h]
  have hto : Env.To id e (e.freeze blk cs.toList) := ⟨fun _ _ => rfl, hm, fun k m h => h.imp (hm k m) id⟩
  have hg := hr.gone b
  refine ⟨⟨?_, hg.virt, hg.bound, hg.dom, hg.inj, ?_, ?_, ?_⟩, ⟨fun _ _ => rfl, hm, rfl⟩, by simp, WLe.refl _ _, fun _ ⟨b1, hl, r⟩ _ => ⟨b1, (live_gone hl).1, r⟩, fun k m h _ => by
    by_cases e1 : k = blk
    · subst e1; exact .inr ⟨b, hlive, esz, cap, n, hβ⟩
    · simp [Env.freeze, e1] at h; exact .inl h⟩
  · intro b1 o1 h1 g1 blk1 s c n1 hβ1
    obtain ⟨ob, h2, h3⟩ := hg.obj b1 o1 h1 g1 blk1 s c n1 hβ1
    exact ⟨ob, h2, AO.rel_to hto h3⟩
  · intro b1 hl1 blk1 s c n1 hβ1
    obtain ⟨hl, hne⟩ := live_gone hl1
    have h2 := hr.sep b1 hl _ _ _ _ hβ1
    refine ⟨?_, h2.2⟩
    have : blk1 ≠ blk := by rintro rfl; exact hne (hr.inj b1 b hl hlive _ _ _ _ _ _ _ hβ1 hβ)
    simp [Env.freeze, this, h2.1]
  · intro k m h
    by_cases e1 : k = blk
    · subst e1
      rcases h with h | h
      · simp [Env.freeze] at h; exact ⟨cs, t, fz, hk, h⟩
      · have h : e.bo k = some m := h
        rw [hsep.2] at h; cases h
    · refine hr.mem k m ?_
      rcases h with h | h
      · simp [Env.freeze, e1] at h; exact .inl h
      · exact .inr h
  · intro g x hx
    obtain ⟨m, h1, h2⟩ := hr.gl g x hx
    exact ⟨m, hm _ _ h1, Tr.rel_mono hm h2⟩

/-! ### Loads -/
def dAgg : TypeDesc → Bool
  | .struct _ | .array _ _ => true
  | _ => false
def tyOK (P : Program) (t : TypeId) (agg : Bool) (n : Nat) : Bool :=
  match P.underlying t, P.info? t with
  | some d, some i => dAgg d == agg && i.size == n
  | _, _ => false

section
variable {P : Program}
theorem tyOK_run {t : TypeId} {agg : Bool} {n : Nat} (h : tyOK P t agg n = true) (w : World) : (Go.isAgg t).run P w = .ok agg w ∧ (Go.sizeOf t).run P w = .ok n w := by
  unfold tyOK at h
  split at h
  · rename_i d i hd hi
    simp only [Bool.and_eq_true, beq_iff_eq] at h
    obtain ⟨rfl, rfl⟩ := h
    constructor
    · simp only [isAgg, underlying, program, bind, Sem.bind, Sem.run, hd]
      cases d <;> rfl
    · simp [Go.sizeOf, typeInfo, program, bind, Sem.bind, Sem.run, hi, pure]
  · cases h

theorem run_loadVar_agg {t : TypeId} {n : Nat} (ht : tyOK P t true n = true) {w : World} {k o : Nat} {cs : Array Value} {t' : TypeId} {fz : Nat × Nat} {mid : List Value}
    (h : w.heap[k]? = some (.cells cs t' fz)) (hs : Sub cs.toList o mid) (hn : mid.length = n) : (loadVar t ⟨k, o, none⟩).run P w = .ok (.agg mid.toArray) w := by
  obtain ⟨h1, h2⟩ := tyOK_run ht w
  simp only [loadVar, Sem.run_bind, h1, Result.andThen, if_true, h2]
  rw [← hn, run_loadCells_sub h hs]
  rfl
theorem run_loadVar_one {t : TypeId} (ht : tyOK P t false 1 = true) {w : World} {k o : Nat} {cs : Array Value} {t' : TypeId} {fz : Nat × Nat} {c : Value}
    (h : w.heap[k]? = some (.cells cs t' fz)) (hs : cs.toList[o]? = some c) : (loadVar t ⟨k, o, none⟩).run P w = .ok c w := by
  obtain ⟨h1, h2⟩ := tyOK_run ht w
  simp only [loadVar, Sem.run_bind, h1, Result.andThen]
  rw [if_neg (by simp)]
  have : w.cell? ⟨k, o, none⟩ = some c := by rw [cell_of h]; simpa using hs
  simp [load, Sem.run, this]
end

/-- A value that is read at a place, as load finds it. -/
theorem read_at {P : Program} {e : Env} {w : World} {v : AV} {agg : Bool} {n : Nat} {k o : Nat} {cs : Array Value} {t' : TypeId} {fz : Nat × Nat} {mid : List Value}
    (h : w.heap[k]? = some (.cells cs t' fz)) (hs : Sub cs.toList o mid) (hv : AV.rel e v mid) (hsz : v.sz = n) (hag : v.isAgg = agg) :
    ∃ cv, AV.val e v cv ∧ ∀ t, tyOK P t agg n = true → (loadVar t ⟨k, o, none⟩).run P w = .ok cv w := by
  rcases AV.val_of_rel hv with ⟨ha, hval⟩ | ⟨ha, c, rfl, hval⟩
  · rw [ha] at hag; subst hag
    exact ⟨_, hval, fun t ht => run_loadVar_agg ht h hs (by rw [(AV.rel_length hv).1, hsz])⟩
  · rw [ha] at hag; subst hag
    have h1 := (AV.rel_length hv).1
    rw [hsz] at h1
    simp at h1; subst h1
    exact ⟨c, hval, fun t ht => run_loadVar_one ht h (by have := hs.get (j := 0) rfl; simpa using this)⟩

theorem addr_eta {a : Addr} (h : a.spot = none) : a = ⟨a.block, a.off, none⟩ := by cases a; simp_all

variable {X : Cx} {Q : Ex → Fr → Hp → Prop}

theorem sat_sized {α : Type} {b1 b2 agg : Bool} {x : α} {k : α → T} {s : String} (h : sat X Q (match b1, b2, agg with
    | true, true, true | true, false, false => k x
    | _, _, _ => .stuck s)) : b1 = true ∧ b2 = agg ∧ sat X Q (k x) := by
  cases b1 <;> cases b2 <;> cases agg <;> first | exact h.elim | exact ⟨rfl, rfl, h⟩

theorem beq_eq {a b : Nat} (h : Nat.beq a b = true) : a = b := Nat.eq_of_beq_eq_true h

theorem sat_off {b : Bool} {i : Nat} {k : T} {s s' : String} (h : sat X Q (match b, i with
    | false, _ => .stuck s
    | true, _ + 1 => .stuck s'
    | true, 0 => k)) : b = true ∧ i = 0 ∧ sat X Q k := by
  cases b <;> cases i <;> first | exact h.elim | exact ⟨rfl, rfl, h⟩
theorem sat_off' {b : Bool} {k : T} {s : String} (h : sat X Q (match b with
    | false => .stuck s
    | true => k)) : b = true ∧ sat X Q k := by
  cases b <;> first | exact h.elim | exact ⟨rfl, h⟩
theorem Sub.one {mid : List Value} {j : Nat} {c : Value} (h : mid[j]? = some c) : Sub mid j [c] := by
  have hlt := lt_of_get h
  refine ⟨mid.take j, mid.drop (j + 1), ?_, by simp; omega⟩
  have : c = mid[j] := by rw [List.getElem?_eq_getElem hlt] at h; exact (Option.some.inj h).symm
  rw [this, List.singleton_append, ← List.drop_eq_getElem_cons hlt, List.take_append_drop]

theorem all1_take : ∀ {vs : List AV}, AV.all1 vs = true → ∀ {j : Nat} {v : AV}, vs[j]? = some v → AV.szs (vs.take j) = j ∧ v.sz = 1 ∧ v.isAgg = false
  | [], _, j, v, hv => by simp at hv
  | x :: xs, h, j, v, hv => by
    simp only [AV.all1] at h
    split at h
    · rename_i h1 h2
      have h1 := beq_eq h1
      cases j with
      | zero => simp at hv; subst hv; exact ⟨by simp [AV.szs_nil, AV.szs_cons], h1, h2⟩
      | succ j =>
        obtain ⟨h3, h4⟩ := all1_take h (j := j) (v := v) (by simpa using hv)
        exact ⟨by simp [AV.szs_nil, AV.szs_cons, h1, h3]; omega, h4⟩
    · cases h

theorem sat_ptr {sub : AV} {agg : Bool} {n j : Nat} {k : AV → T} {s s' : String} (h : sat X Q (match sub, agg, n with
      | .t (.arr _ xs), false, 1 => .idx xs j fun y => k (.t y)
      | .agg vs, false, 1 => match AV.all1 vs with
        | true => nthK k j vs
        | false => .stuck s
      | _, _, _ => .stuck s')) {mid : List Value} (hy : AV.rel e sub mid) : agg = false ∧ n = 1 ∧ ∃ v c, mid[j]? = some c ∧ AV.rel e v [c] ∧ v.sz = 1 ∧ v.isAgg = false ∧ sat X Q (k v) := by
  split at h
  · simp only [sat] at h
    obtain ⟨x, _, hx, h⟩ := h
    simp only [Int.toNat_natCast] at hx
    simp only [AV.rel, AV.leaf, Tr.rel] at hy
    obtain ⟨c', hc', hna, hxr⟩ := Tr.ones_get hy.2 hx
    refine ⟨rfl, rfl, .t x, c', hc', by simp only [AV.rel, AV.leaf]; exact hxr, ?_, hna, h⟩
    simp only [AV.sz]; rw [← Tr.rel_length hxr]; rfl
  · split at h
    · rename_i hall
      obtain ⟨v, hv, h⟩ := sat_nthK h
      obtain ⟨h1, h2, h3⟩ := all1_take hall hv
      simp only [AV.rel] at hy
      obtain ⟨mid2, hs, hr2, _⟩ := AV.rels_get hy hv
      have hl := (AV.rel_length hr2).1
      rw [h2] at hl
      match mid2, hl, hs, hr2 with
      | [c], _, hs, hr2 =>
        have := hs.get (j := 0) rfl
        rw [h1] at this
        exact ⟨rfl, rfl, v, c, by simpa using this, hr2, h2, h3, h⟩
    · exact h.elim
  · exact h.elim

theorem sat_ptrT {sub : Tr} {agg : Bool} {n j : Nat} {k : AV → T} {s : String} (h : sat X Q (match sub, agg, n with
      | .arr _ ys, false, 1 => .idx ys j fun y => k (.t y)
      | _, _, _ => .stuck s)) {mid : List Value} (hy : Tr.rel e.ro sub mid) : agg = false ∧ n = 1 ∧ ∃ v c, mid[j]? = some c ∧ AV.rel e v [c] ∧ v.sz = 1 ∧ v.isAgg = false ∧ sat X Q (k v) := by
  split at h
  · simp only [sat] at h
    obtain ⟨x, _, hx, h⟩ := h
    simp only [Int.toNat_natCast] at hx
    simp only [Tr.rel] at hy
    obtain ⟨c', hc', hna, hxr⟩ := Tr.ones_get hy.2 hx
    refine ⟨rfl, rfl, .t x, c', hc', by simp only [AV.rel, AV.leaf]; exact hxr, ?_, hna, h⟩
    simp only [AV.sz]; rw [← Tr.rel_length hxr]; rfl
  · exact h.elim

theorem load_sound (hr : Rel X.G e H w) {a : AV} {c : Value} (ha : AV.val e a c) {agg : Bool} {n : Nat} {k : AV → T} (h : sat X Q (loadK agg n H a k)) :
    ∃ v cv, sat X Q (k v) ∧ AV.val e v cv ∧ ∃ ad, c = .pointer (some ad) ∧ ∀ P t, tyOK P t agg n = true → (loadVar t ad).run P w = .ok cv w := by
  have fin {v : AV} {kk o : Nat} {cs : Array Value} {t' : TypeId} {fz : Nat × Nat} {mid : List Value} (hc : c = .pointer (some ⟨kk, o, none⟩))
      (hh : w.heap[kk]? = some (.cells cs t' fz)) (hs : Sub cs.toList o mid) (hv : AV.rel e v mid) (hsz : v.sz = n) (hag : v.isAgg = agg) (hk : sat X Q (k v)) :
      ∃ v cv, sat X Q (k v) ∧ AV.val e v cv ∧ ∃ ad, c = .pointer (some ad) ∧ ∀ P t, tyOK P t agg n = true → (loadVar t ad).run P w = .ok cv w := by
    rcases AV.val_of_rel hv with ⟨ha, hval⟩ | ⟨ha, c', rfl, hval⟩
    · rw [ha] at hag; subst hag
      exact ⟨v, _, hk, hval, _, hc, fun P t ht => run_loadVar_agg ht hh hs (by rw [(AV.rel_length hv).1, hsz])⟩
    · rw [ha] at hag; subst hag
      have h1 := (AV.rel_length hv).1
      rw [hsz] at h1
      simp at h1; subst h1
      exact ⟨v, c', hk, hval, _, hc, fun P t ht => run_loadVar_one ht hh (by have := hs.get (j := 0) rfl; simpa using this)⟩
  unfold loadK at h
  split at h
  · rename_i x
    obtain ⟨h1, h2, h⟩ := sat_sized h
    simp only [AV.val, AV.leaf] at ha
    obtain ⟨ad, mem, mid, hc, hsp, hm, hs, hx⟩ := ha
    obtain ⟨cs, t, fz, hh, rfl⟩ := hr.mem _ _ hm
    have hc : c = .pointer (some ⟨ad.block, ad.off, none⟩) := by rw [← addr_eta hsp]; simpa using hc
    exact fin (v := .t x) hc hh hs (by simp only [AV.rel, AV.leaf]; exact hx) (beq_eq h1) h2 h
  · rename_i b i o p ix
    simp only [AV.val, AV.leaf] at ha
    obtain ⟨blk, esz, rc, nn, hβ, hc⟩ := ha
    have hc : c = .pointer (some ⟨blk, i * esz + o + ix.getD 0, none⟩) := by simpa using hc
    obtain ⟨ob, hob, h⟩ := sat_nthK h
    split at h
    · rename_i v
      obtain ⟨oo, hoo, hrel⟩ := hr.obj b _ hob (by simp) blk esz rc nn hβ
      obtain ⟨_, _, cs, t, fz, rfl, hv, _⟩ := hrel
      obtain ⟨y, d, hp, h⟩ := sat_getA h
      obtain ⟨mid, hs, hy, _⟩ := pathA_sound (y := .undef) hp hv
      simp only [Nat.zero_add] at h
      obtain ⟨hod, hi, h9⟩ := sat_off h
      have hod := beq_eq hod
      subst hi hod
      simp only [Nat.zero_mul, Nat.zero_add] at hc
      split at h9
      · obtain ⟨h1, h2, h8⟩ := sat_sized h9
        simp only [Option.getD_none, Nat.add_zero] at hc
        exact fin hc hoo hs hy (beq_eq h1) h2 h8
      · rename_i j
        simp only [Option.getD_some] at hc
        obtain ⟨e1, e2, v, c', hc', hrv, h1, h2, h8⟩ := sat_ptr h9 hy
        subst e1 e2
        exact fin hc hoo (hs.trans (Sub.one hc')) hrv h1 h2 h8
    · rename_i es xs
      obtain ⟨oo, hoo, hrel⟩ := hr.obj b _ hob (by simp) blk esz rc nn hβ
      obtain ⟨rfl, _, cs, t, fz, rfl, hz, _, _, _, mid, post, hcs, hrow⟩ := hrel
      simp only [sat] at h
      obtain ⟨x, _, hx, h⟩ := h
      simp only [Int.toNat_natCast] at hx
      obtain ⟨mx, hsx, hlx, hrx⟩ := Tr.row_get hrow hx
      have hs0 : Sub cs.toList 0 mid := ⟨[], post, by simpa using hcs, rfl⟩
      obtain ⟨y, d, hp, h⟩ := sat_getT h
      obtain ⟨my, hsy, hry, _⟩ := path_sound (y := .nilp) hp hrx
      have hs2 := (hs0.trans hsx).trans hsy
      simp only [Nat.zero_add] at h hs2
      obtain ⟨hod, h9⟩ := sat_off' h
      have hod := beq_eq hod
      subst hod
      split at h9
      · obtain ⟨h1, h2, h8⟩ := sat_sized h9
        simp only [Option.getD_none, Nat.add_zero] at hc
        exact fin (v := .t y) hc hoo hs2 (by simp only [AV.rel, AV.leaf]; exact hry) (beq_eq h1) h2 h8
      · rename_i j
        simp only [Option.getD_some] at hc
        obtain ⟨e1, e2, v, c', hc', hrv, h1, h2, h8⟩ := sat_ptrT (e := e) h9 hry
        subst e1 e2
        exact fin hc hoo (hs2.trans (Sub.one hc')) hrv h1 h2 h8
    · exact h.elim
  · exact h.elim

/-! ### Freezing -/
mutual
theorem frz_sound {v : AV} : ∀ {H : Hp} {e : Env} {c : List Value} {k : Tr → Hp → T}, Rel X.G e H w → AV.rel e v c → sat X Q (frzK H v k) →
    ∃ x e' H', sat X Q (k x H') ∧ Step X.G e H w e' H' w ∧ Tr.rel e'.ro x c := by
  intro H e c k hr hv h
  match v with
  | .t x => exact ⟨x, e, H, h, Step.refl hr, by simpa [AV.rel, AV.leaf] using hv⟩
  | .sl b o p off len cap =>
    simp only [frzK] at h
    obtain ⟨ob, hob, h⟩ := sat_nthK h
    split at h
    · rename_i esz xs
      obtain ⟨_, h⟩ := sat_setK h
      simp only [AV.rel, AV.leaf] at hv
      rcases hv with ⟨hβ, rfl, rfl, rfl, rfl, _, base, rfl⟩ | ⟨blk, es, rc, nn, base, cp, hβ, rfl, hle, hin, hcap, hbase⟩
      · refine ⟨_, e, _, h, Step.gone hr b, ?_⟩
        simp only [Tr.rel]
        exact ⟨base, 0, by simp, by simp, by simp, .inl (by simp)⟩
      · obtain ⟨oo, hoo, hrel⟩ := hr.obj b _ hob (by simp) _ _ _ _ hβ
        obtain ⟨rfl, hn, cs, t, fz, rfl, hz, hsz, hlc, h1, mid, post, hcs, hrow⟩ := hrel
        have hst := Step.freeze hr hob (by simp) hβ hoo
        obtain ⟨hin, rfl, _⟩ := hin _ hn
        have hlen : ((xs.drop off).take len).length = len := by simp; omega
        refine ⟨_, _, _, h, hst, ?_⟩
        simp only [Tr.rel, hlen]
        refine ⟨base, cp, rfl, by simp, hle, ?_⟩
        by_cases h0 : len = 0
        · subst h0; exact .inl (by simp)
        · rcases hbase with hz0 | hb0
          · omega
          · obtain ⟨mid2, hs2, hr2⟩ := Tr.row_cut hrow off len
            have hs0 : Sub cs.toList 0 mid := ⟨[], post, by simpa using hcs, rfl⟩
            refine .inr ⟨_, cs.toList, mid2, hb0, rfl, by simp [Env.freeze], ?_, Tr.row_mono hst.le.ro hr2⟩
            have := hs0.trans hs2
            rw [Nat.min_eq_left (by omega)] at this
            exact this
    · exact h.elim
  | .agg xs =>
    simp only [frzK] at h
    simp only [AV.rel] at hv
    obtain ⟨ys, e', H', h, hs, hrs, _⟩ := frzs_sound hr hv h
    exact ⟨_, e', H', h, hs, by simpa [Tr.rel] using hrs⟩
  | .undef | .ptr _ _ _ _ _ | .bz _ _ | .vp _ | .tup _ | .fn _ _ _ | .mp _ => simp [frzK, sat] at h
theorem frzs_sound {xs : List AV} : ∀ {H : Hp} {e : Env} {c : List Value} {k : List Tr → Hp → T}, Rel X.G e H w → AV.rels e xs c → sat X Q (frzsK H xs k) →
    ∃ ys e' H', sat X Q (k ys H') ∧ Step X.G e H w e' H' w ∧ Tr.rels e'.ro ys c ∧ ys.length = xs.length := by
  intro H e c k hr hv h
  match xs with
  | [] => exact ⟨[], e, H, h, Step.refl hr, by simpa [Tr.rels, AV.rels] using hv, rfl⟩
  | x :: xs =>
    simp only [frzsK] at h
    simp only [AV.rels] at hv
    obtain ⟨a, b, rfl, ha, hb⟩ := hv
    obtain ⟨y, e1, H1, h, s1, r1⟩ := frz_sound hr ha h
    obtain ⟨ys, e2, H2, h, s2, r2, r3⟩ := frzs_sound s1.rel (AV.rels_to (s1.to hr) hb) h
    exact ⟨y :: ys, e2, H2, h, s1.trans s2, by simp only [Tr.rels]; exact ⟨a, b, rfl, Tr.rel_mono s2.le.ro r1, r2⟩, by simp [r3]⟩
end

/-! ### Stores -/
theorem sat_storesz {b1 b2 : Bool} {k : T} {s : String} (h : sat X Q (match b1, b2 with
    | true, true => k
    | _, _ => .stuck s)) : b1 = true ∧ b2 = true ∧ sat X Q k := by
  cases b1 <;> cases b2 <;> first | exact h.elim | exact ⟨rfl, rfl, h⟩
theorem sat_solid {v : AV} {k : T} (h : sat X Q (solidK v k)) : v.solid = true ∧ sat X Q k := by
  unfold solidK at h
  split at h
  · rename_i hv; exact ⟨hv, h⟩
  · exact h.elim
theorem solid_rel {v : AV} {c : Value} (h : AV.val e v c) (hs : v.solid = true) : AV.rel e v c.cells.toList :=
  AV.rel_of_val h (by rintro rfl; simp [AV.solid] at hs) (by rintro xs rfl; simp [AV.solid] at hs)

theorem store_run {P : Program} {w : World} {t : TypeId} {n : Nat} {kk o : Nat} {cs : Array Value} {t' : TypeId} {fz : Nat × Nat} {v : Value} {mid : List Value}
    (ht : (P.info? t).map (·.size) = some n) (hh : w.heap[kk]? = some (.cells cs t' fz)) (hz : NoFz cs.size fz) (hs : Sub cs.toList o mid) (hm : mid.length = n) (hv : v.cells.size = n) (h1 : Ones v.cells.toList) :
    (storeVar t ⟨kk, o, none⟩ v).run P w = .ok () (World.setBlk w kk (.cells (over cs.toList o v.cells.toList).toArray t' fz)) := by
  have hsz : (Go.sizeOf t).run P w = .ok n w := by
    cases hi : P.info? t with
    | none => rw [hi] at ht; cases ht
    | some i => rw [hi] at ht; simp at ht; simp [Go.sizeOf, typeInfo, program, bind, Sem.bind, Sem.run, hi, pure, ht]
  have hl := hs.len
  simp only [storeVar, Sem.run_bind, hsz, Result.andThen, hv]
  rw [if_neg (by simp)]
  have := run_storeCells_over (P := P) (k := kk) (t := t') (fz := fz) o v.cells.toList 0 cs w hh hz (by simp at hl ⊢; omega) h1
  simpa using this

theorem sat_storearr {sub v : AV} {n j : Nat} {K : Nat → List Tr → Tr → T} {s s' : String} (h : sat X Q (match sub, v, n with
          | .t (.arr m xs), .t y, 1 => match y.isAgg with
            | true => .stuck s
            | false => .asrt (decide (j < xs.length)) (K m xs y)
          | _, _, _ => .stuck s')) : ∃ m xs y, sub = .t (.arr m xs) ∧ v = .t y ∧ n = 1 ∧ y.isAgg = false ∧ j < xs.length ∧ sat X Q (K m xs y) := by
  split at h
  · split at h
    · exact h.elim
    · rename_i hna
      simp only [sat] at h
      exact ⟨_, _, _, rfl, rfl, rfl, hna, of_decide_eq_true h.1, h.2⟩
  · exact h.elim

theorem sat_storearrT {sub y : Tr} {n j : Nat} {K : Nat → List Tr → Tr → T} {s s' : String} (h : sat X Q (match sub, y, n with
          | .arr m ys, y, 1 => match y.isAgg with
            | true => .stuck s
            | false => .asrt (decide (j < ys.length)) (K m ys y)
          | _, _, _ => .stuck s')) : ∃ m ys, sub = .arr m ys ∧ n = 1 ∧ y.isAgg = false ∧ j < ys.length ∧ sat X Q (K m ys y) := by
  split at h
  · split at h
    · exact h.elim
    · rename_i hna
      simp only [sat] at h
      exact ⟨_, _, rfl, rfl, hna, of_decide_eq_true h.1, h.2⟩
  · exact h.elim

theorem frz_solid {H : Hp} {v : AV} {k : Tr → Hp → T} (h : sat X Q (frzK H v k)) : v.solid = true := by
  cases v <;> first | rfl | (simp [frzK, sat] at h)

theorem store_sound (hr : Rel X.G e H w) {a v : AV} {ca cv : Value} (ha : AV.val e a ca) (hv : AV.val e v cv) {n : Nat} {k : Hp → T} (h : sat X Q (storeK n H a v k)) :
    ∃ e' H' w', sat X Q (k H') ∧ Step X.G e H w e' H' w' ∧ ∃ ad, ca = .pointer (some ad) ∧ ∀ P t, (P.info? t).map (·.size) = some n → (storeVar t ad cv).run P w = .ok () w' := by
  unfold storeK at h
  split at h
  · rename_i b i o p ix
    simp only [AV.val, AV.leaf] at ha
    obtain ⟨blk, esz, rc, nn, hβ, hc⟩ := ha
    have hc : ca = .pointer (some ⟨blk, i * esz + o + ix.getD 0, none⟩) := by simpa using hc
    obtain ⟨ob, hob, h⟩ := sat_nthK h
    split at h
    · rename_i v0
      obtain ⟨hsol, h⟩ := sat_solid h
      have hvr := solid_rel hv hsol
      obtain ⟨oo, hoo, hrel⟩ := hr.obj b _ hob (by simp) blk esz rc nn hβ
      obtain ⟨hnn, he1, cs, t, fz, rfl, hv0, hz⟩ := hrel
      obtain ⟨y, d, hp, h⟩ := sat_getA h
      simp only [Nat.zero_add] at h
      obtain ⟨hod, hi, h9⟩ := sat_off h
      have hod := beq_eq hod
      subst hi hod
      simp only [Nat.zero_mul, Nat.zero_add] at hc
      cases ix with
      | none =>
        simp only at h9
        obtain ⟨h1, h2, h8⟩ := sat_storesz h9
        obtain ⟨v', hv', h7⟩ := sat_setA h8
        obtain ⟨_, h6⟩ := sat_setK h7
        obtain ⟨mid, hs, hy, hu⟩ := pathA_sound (y := v) hp hv0
        have hlm := (AV.rel_length hy).1
        have hlv := (AV.rel_length hvr).1
        have e1 := beq_eq h1
        have e2 := beq_eq h2
        have hnew := hu v' hv' _ hvr (by omega)
        have hlen := over_length cs.toList o cv.cells.toList (by have := hs.len; simp at *; omega)
        simp only [Option.getD_none, Nat.add_zero] at hc
        refine ⟨e, _, _, h6, Step.set hr hob (by simp) hβ (o' := .var v') ⟨hnn, he1, (over cs.toList o cv.cells.toList).toArray, t, fz, rfl, by simpa using hnew, ?_⟩, _, hc, fun P ty hty => ?_⟩
        · have : (over cs.toList o cv.cells.toList).toArray.size = cs.size := by simpa using hlen
          rw [this]; exact hz
        · exact store_run hty hoo hz hs (by omega) (by simpa using (by omega : cv.cells.toList.length = n)) (AV.rel_length hvr).2
      | some j =>
        · obtain ⟨m, xs, yv, ey, ev, en, hna, hj, h10⟩ := sat_storearr h9
          · subst ey ev en
            obtain ⟨v', hv', h7⟩ := sat_setA h10
            obtain ⟨_, h6⟩ := sat_setK h7
            obtain ⟨mid, hs, hy, hu⟩ := pathA_sound (y := .t (.arr m (xs.set j yv))) hp hv0
            simp only [AV.rel, AV.leaf, Tr.rel] at hy hvr
            have hone : ∃ c1, cv.cells.toList = [c1] := by
              have := Tr.rel_length hvr
              have h1 : yv.sz = 1 := by cases yv <;> first | rfl | simp [Tr.isAgg] at hna
              rw [h1] at this
              match hcc : cv.cells.toList, this with
              | [c1], _ => exact ⟨c1, rfl⟩
            obtain ⟨c1, hc1⟩ := hone
            have hl := Tr.ones_length hy.2
            have hnew := hu v' hv' (mid.set j c1) (by simp only [AV.rel, AV.leaf, Tr.rel]; exact ⟨by simpa using hy.1, Tr.ones_set hy.2 hna (by rw [← hc1]; exact hvr)⟩) (by simp)
            have hsj : Sub mid j [mid[j]'(by omega)] := Sub.one (by simp)
            have he : over cs.toList o (mid.set j c1) = over cs.toList (o + j) [c1] := by
              have : mid.set j c1 = over mid j [c1] := by
                simp only [over, List.length_singleton]
                rw [List.set_eq_take_append_cons_drop, if_pos (by omega)]; simp
              rw [this, over_over hs hsj (by simp)]
            rw [he] at hnew
            have hss := hs.trans hsj
            have hlen := over_length cs.toList (o + j) [c1] (by have := hss.len; simp at *; omega)
            simp only [Option.getD_some] at hc
            refine ⟨e, _, _, h6, Step.set hr hob (by simp) hβ (o' := .var v') ⟨hnn, he1, (over cs.toList (o + j) [c1]).toArray, t, fz, rfl, by simpa using hnew, ?_⟩, _, hc, fun P ty hty => ?_⟩
            · have : (over cs.toList (o + j) [c1]).toArray.size = cs.size := by simpa using hlen
              rw [this]; exact hz
            · have := store_run (v := cv) hty hoo hz hss (by simp) (by rw [← Array.length_toList, hc1]; rfl) (by rw [hc1]; have := (AV.rel_length (e := e) (v := .t yv) (by simpa [AV.rel, AV.leaf] using hvr)).2; rwa [hc1] at this)
              rw [hc1] at this; exact this
    · rename_i esz0 xs0
      have hsol := frz_solid h
      have hvr := solid_rel hv hsol
      obtain ⟨y, e1, H1, h, s1, hy⟩ := frz_sound hr hvr h
      obtain ⟨ob1, hob1, h⟩ := sat_nthK h
      split at h
      · rename_i esz1 xs
        have hb1 : e1.β b = e.β b := s1.le.β b (lt_of_get hob)
        obtain ⟨oo, hoo, hrel⟩ := s1.rel.obj b _ hob1 (by simp) blk esz rc nn (by rw [hb1]; exact hβ)
        obtain ⟨rfl, hnn, cs, t, fz, rfl, hz, hcsz, hlc, hon, midr, post, hcs, hrow⟩ := hrel
        simp only [sat] at h
        obtain ⟨x, _, hx, h⟩ := h
        simp only [Int.toNat_natCast] at hx
        obtain ⟨sub, d, hp, h⟩ := sat_getT h
        simp only [Nat.zero_add] at h
        obtain ⟨hod, h9⟩ := sat_off' h
        have hod := beq_eq hod
        subst hod
        cases ix with
        | some j =>
          simp only at h9
          obtain ⟨m, ys, es, en, hna, hj, h8⟩ := sat_storearrT (K := fun m ys y => setT (.arr m (ys.set j y)) p x fun x' => setK (.row esz1 (xs.set i x')) b H1 k) h9
          subst es en
          obtain ⟨x', hx', h7⟩ := sat_setT h8
          obtain ⟨_, h6⟩ := sat_setK h7
          obtain ⟨mx, hsx, hlx, hrx⟩ := Tr.row_get hrow hx
          obtain ⟨my, hsy, hry, hu⟩ := path_sound (y := .arr m (ys.set j y)) hp hrx
          simp only [Tr.rel] at hry
          have hone1 : ∃ c1, cv.cells.toList = [c1] := by
            have := Tr.rel_length hy
            have h1 : y.sz = 1 := by cases y <;> first | rfl | simp [Tr.isAgg] at hna
            rw [h1] at this
            match hcc : cv.cells.toList, this with
            | [c1], _ => exact ⟨c1, rfl⟩
          obtain ⟨c1, hc1⟩ := hone1
          have hl := Tr.ones_length hry.2
          have hnew := hu x' hx' (my.set j c1) (by simp only [Tr.rel]; exact ⟨by simpa using hry.1, Tr.ones_set hry.2 hna (by rw [← hc1]; exact hy)⟩) (by simp)
          have hsj : Sub my j [my[j]'(by omega)] := Sub.one (by simp)
          have he : over mx o (my.set j c1) = over mx (o + j) [c1] := by
            have : my.set j c1 = over my j [c1] := by
              simp only [over, List.length_singleton]
              rw [List.set_eq_take_append_cons_drop, if_pos (by omega)]; simp
            rw [this, over_over hsy hsj (by simp)]
          rw [he] at hnew
          have hsyj := hsy.trans hsj
          have hlen1 : (over mx (o + j) [c1]).length = esz1 := by rw [over_length _ _ _ (by have := hsyj.len; simp at *; omega)]; exact hlx
          have hlt := lt_of_get hx
          have hrow' := Tr.row_set hrow hlt hnew hlen1
          have hs0 : Sub cs.toList 0 midr := ⟨[], post, by simpa using hcs, rfl⟩
          have hsx0 : Sub cs.toList (i * esz1) mx := by simpa using hs0.trans hsx
          have hss := hsx0.trans hsyj
          rw [over_over hsx hsyj (by simp)] at hrow'
          have hover : over cs.toList (i * esz1 + (o + j)) [c1] = over midr (i * esz1 + (o + j)) [c1] ++ post := by
            have := over_over hs0 (hsx.trans hsyj) (mid' := [c1]) (by simp)
            rw [Nat.zero_add] at this
            rw [← this]
            have hl2 : (over midr (i * esz1 + (o + j)) [c1]).length = midr.length := over_length _ _ _ (by have := (hsx.trans hsyj).len; simp at *; omega)
            have h3 := over_pre (pre := []) (mid := midr) (post := post) hl2
            rw [hcs]
            simpa using h3
          have hlen := over_length cs.toList (i * esz1 + (o + j)) [c1] (by have := hss.len; simp at *; omega)
          simp only [Option.getD_some] at hc
          rw [show i * esz1 + o + j = i * esz1 + (o + j) by omega] at hc
          have hone : Ones [c1] := by rw [← hc1]; exact (AV.rel_length hvr).2
          have hones : Ones (over cs.toList (i * esz1 + (o + j)) [c1]) := by
            intro c2 hc2
            simp only [over, List.mem_append] at hc2
            rcases hc2 with (hc2 | hc2) | hc2
            · exact hon c2 (List.mem_of_mem_take hc2)
            · exact hone c2 hc2
            · exact hon c2 (List.mem_of_mem_drop hc2)
          refine ⟨e1, _, _, h6, s1.trans (Step.set s1.rel hob1 (by simp) (by rw [hb1]; exact hβ) (o' := .row esz1 (xs.set i x')) ⟨rfl, by rw [hnn]; simp, (over cs.toList (i * esz1 + (o + j)) [c1]).toArray, t, fz, rfl, ?_, ?_, by simpa using hlc, by simpa using hones, _, post, by simpa using hover, hrow'⟩), _, hc, fun P ty hty => ?_⟩
          · have : (over cs.toList (i * esz1 + (o + j)) [c1]).toArray.size = cs.size := by simpa using hlen
            rw [this]; exact hz
          · have : (over cs.toList (i * esz1 + (o + j)) [c1]).toArray.size = cs.size := by simpa using hlen
            rw [this]; exact hcsz
          · have := store_run (v := cv) hty hoo hz hss (by simp) (by rw [← Array.length_toList, hc1]; rfl) (by rw [hc1]; exact hone)
            rw [hc1] at this; exact this
        | none =>
          simp only at h9
          obtain ⟨h1, h2, h8⟩ := sat_storesz h9
          obtain ⟨x', hx', h7⟩ := sat_setT h8
          obtain ⟨_, h6⟩ := sat_setK h7
          obtain ⟨mx, hsx, hlx, hrx⟩ := Tr.row_get hrow hx
          obtain ⟨my, hsy, hry, hu⟩ := path_sound (y := y) hp hrx
          have hlm := Tr.rel_length hry
          have hlv := Tr.rel_length hy
          have e1' := beq_eq h1
          have e2' := beq_eq h2
          have hnew := hu x' hx' _ hy (by omega)
          have hlen1 : (over mx o cv.cells.toList).length = esz1 := by rw [over_length _ _ _ (by have := hsy.len; omega)]; exact hlx
          have hlt := lt_of_get hx
          have hrow' := Tr.row_set hrow hlt hnew hlen1
          have hs0 : Sub cs.toList 0 midr := ⟨[], post, by simpa using hcs, rfl⟩
          have hsx0 : Sub cs.toList (i * esz1) mx := by simpa using hs0.trans hsx
          have hss := hsx0.trans hsy
          rw [over_over hsx hsy (by omega)] at hrow'
          have hover : over cs.toList (i * esz1 + o) cv.cells.toList = over midr (i * esz1 + o) cv.cells.toList ++ post := by
            have := over_over hs0 (hsx.trans hsy) (mid' := cv.cells.toList) (by omega)
            rw [Nat.zero_add] at this
            rw [← this]
            have hl2 : (over midr (i * esz1 + o) cv.cells.toList).length = midr.length := over_length _ _ _ (by have := (hsx.trans hsy).len; omega)
            have h3 := over_pre (pre := []) (mid := midr) (post := post) hl2
            rw [hcs]
            simpa using h3
          have hlen := over_length cs.toList (i * esz1 + o) cv.cells.toList (by have := hss.len; omega)
          simp only [Option.getD_none, Nat.add_zero] at hc
          have hone : Ones cv.cells.toList := (AV.rel_length hvr).2
          have hones : Ones (over cs.toList (i * esz1 + o) cv.cells.toList) := by
            intro c1 hc1
            simp only [over, List.mem_append] at hc1
            rcases hc1 with (hc1 | hc1) | hc1
            · exact hon c1 (List.mem_of_mem_take hc1)
            · exact hone c1 hc1
            · exact hon c1 (List.mem_of_mem_drop hc1)
          refine ⟨e1, _, _, h6, s1.trans (Step.set s1.rel hob1 (by simp) (by rw [hb1]; exact hβ) (o' := .row esz1 (xs.set i x')) ⟨rfl, by rw [hnn]; simp, (over cs.toList (i * esz1 + o) cv.cells.toList).toArray, t, fz, rfl, ?_, ?_, by simpa using hlc, by simpa using hones, _, post, by simpa using hover, hrow'⟩), _, hc, fun P ty hty => ?_⟩
          · have : (over cs.toList (i * esz1 + o) cv.cells.toList).toArray.size = cs.size := by simpa using hlen
            rw [this]; exact hz
          · have : (over cs.toList (i * esz1 + o) cv.cells.toList).toArray.size = cs.size := by simpa using hlen
            rw [this]; exact hcsz
          · exact store_run hty hoo hz hss (by omega) (by simpa using (by omega : cv.cells.toList.length = n)) hone
      · exact h.elim
    · exact h.elim
  · exact h.elim
end Stk
