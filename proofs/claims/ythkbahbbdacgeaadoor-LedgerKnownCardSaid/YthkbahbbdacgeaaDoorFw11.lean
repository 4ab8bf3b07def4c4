/- The framework, part 11: other names; the focus of a call; what is lent. -/
import Derived.Test.YthkbahbbdacgeaaDoorFw10
namespace Stk
open Go
variable {X : Cx} {Q : Ex → Fr → Hp → Prop} {e : Env} {H : Hp} {w : World}

structure Ren (R : Nat → Nat → Prop) (e e' : Env) : Prop where
  β : ∀ b b', R b b' → e.β b ≠ .no → e'.β b' = e.β b
  ro : MemLe e.ro e'.ro
def Holds (e e' : Env) : Prop := ∀ k mem, e.holds k mem → e'.holds k mem

def RenV (R : Nat → Nat → Prop) (v v' : AV) : Prop := ∀ e e', Ren R e e' → (Holds e e' ∨ v.free = true) → (∀ cs, AV.rel e v cs → AV.rel e' v' cs) ∧ (∀ c, AV.val e v c → AV.val e' v' c)
def RenVs (R : Nat → Nat → Prop) (xs ys : List AV) : Prop := ∀ e e', Ren R e e' → (Holds e e' ∨ AV.frees xs = true) → (∀ cs, AV.rels e xs cs → AV.rels e' ys cs) ∧ (∀ cs, AV.vals e xs cs → AV.vals e' ys cs)
def FnOK (X : Cx) (Q : Ex → Fr → Hp → Prop) (f : Nat → T → (Nat → T) → T) (R : Nat → Nat → Prop) : Prop :=
  ∀ b no k, sat X Q (f b no k) → sat X Q no ∨ ∃ b', R b b' ∧ sat X Q (k b')

theorem RenV.undef {R : Nat → Nat → Prop} (v : AV) (hv : v.sz = 1) (hl : ∀ e cs, AV.rel e v cs → AV.leaf e v cs) : RenV R v .undef := by
  intro e e' _ _
  refine ⟨fun cs h => ?_, fun c _ => by simp [AV.val]⟩
  obtain ⟨h1, h2⟩ := AV.leaf_length (hl e cs h)
  rw [hv] at h1
  match cs, h1 with
  | [c], _ => simp only [AV.rel, AV.leaf]; exact ⟨c, rfl, h2 c (by simp)⟩
theorem RenV.leaf {R : Nat → Nat → Prop} {v v' : AV} (hv : ∀ e cs, AV.rel e v cs = AV.leaf e v cs) (hv' : ∀ e cs, AV.rel e v' cs = AV.leaf e v' cs) (hc : ∀ e c, AV.val e v c = AV.leaf e v [c]) (hc' : ∀ e c, AV.val e v' c = AV.leaf e v' [c])
    (h : ∀ e e' cs, Ren R e e' → (Holds e e' ∨ v.free = true) → AV.leaf e v cs → AV.leaf e' v' cs) : RenV R v v' := by
  intro e e' hr hh
  exact ⟨fun cs hx => by rw [hv] at hx; rw [hv']; exact h e e' cs hr hh hx, fun c hx => by rw [hc] at hx; rw [hc']; exact h e e' [c] hr hh hx⟩

mutual
theorem renK_sound {f : Nat → T → (Nat → T) → T} {R : Nat → Nat → Prop} (hf : FnOK X Q f R) : ∀ {v : AV} {k : AV → T}, sat X Q (renK f v k) → ∃ v', RenV R v v' ∧ sat X Q (k v')
  | .t x, k, h => ⟨.t x, fun e e' hr _ => ⟨fun cs hx => by simp only [AV.rel, AV.leaf] at hx ⊢; exact Tr.rel_mono hr.ro hx, fun c hx => by
      simp only [AV.val] at hx ⊢
      cases hxa : x.isAgg with
      | true => rw [hxa] at hx; obtain ⟨cs, h1, h2⟩ := hx; exact ⟨cs, h1, Tr.rel_mono hr.ro h2⟩
      | false => rw [hxa] at hx; exact Tr.rel_mono hr.ro hx⟩, by simpa only [renK] using h⟩
  | .undef, k, h => ⟨.undef, fun e e' _ _ => ⟨fun cs hx => by simpa only [AV.rel, AV.leaf] using hx, fun c _ => by simp [AV.val]⟩, by simpa only [renK] using h⟩
  | .ptr b i o p ix, k, h => by
    simp only [renK] at h
    rcases hf _ _ _ h with h | ⟨b', hb, h⟩
    · exact ⟨_, RenV.undef _ rfl (fun e cs hx => by simpa only [AV.rel] using hx), h⟩
    · refine ⟨_, RenV.leaf (fun _ _ => by simp only [AV.rel]) (fun _ _ => by simp only [AV.rel]) (fun _ _ => by simp only [AV.val]) (fun _ _ => by simp only [AV.val]) ?_, h⟩
      rintro e e' cs hr - ⟨blk, esz, rc, n, h1, h2⟩
      exact ⟨blk, esz, rc, n, by rw [hr.β b b' hb (by simp [h1]), h1], h2⟩
  | .sl b o p off len cap, k, h => by
    simp only [renK] at h
    rcases hf _ _ _ h with h | ⟨b', hb, h⟩
    · exact ⟨_, RenV.undef _ rfl (fun e cs hx => by simpa only [AV.rel] using hx), h⟩
    · refine ⟨_, RenV.leaf (fun _ _ => by simp only [AV.rel]) (fun _ _ => by simp only [AV.rel]) (fun _ _ => by simp only [AV.val]) (fun _ _ => by simp only [AV.val]) ?_, h⟩
      intro e e' cs hr _ hx
      exact slRel_to (hr.β b b' hb) hx
  | .mp b, k, h => by
    simp only [renK] at h
    rcases hf _ _ _ h with h | ⟨b', hb, h⟩
    · exact ⟨_, RenV.undef _ rfl (fun e cs hx => by simpa only [AV.rel] using hx), h⟩
    · refine ⟨_, RenV.leaf (fun _ _ => by simp only [AV.rel]) (fun _ _ => by simp only [AV.rel]) (fun _ _ => by simp only [AV.val]) (fun _ _ => by simp only [AV.val]) ?_, h⟩
      rintro e e' cs hr - ⟨blk, esz, rc, n, h1, h2⟩
      exact ⟨blk, esz, rc, n, by rw [hr.β b b' hb (by simp [h1]), h1], h2⟩
  | .bz esz xs, k, h => ⟨.bz esz xs, RenV.leaf (fun _ _ => by simp only [AV.rel]) (fun _ _ => by simp only [AV.rel]) (fun _ _ => by simp only [AV.val]) (fun _ _ => by simp only [AV.val]) (by
      rintro e e' cs hr hh ⟨base, cap, h1, h2, h3⟩
      rcases hh with hh | hh
      · refine ⟨base, cap, h1, h2, h3.imp _root_.id ?_⟩
        rintro ⟨a, mem, mid, ha, hs, hm, hsub, hrr⟩
        exact ⟨a, mem, mid, ha, hs, hh _ _ hm, hsub, Tr.row_mono hr.ro hrr⟩
      · simp [AV.free] at hh), by simpa only [renK] using h⟩
  | .vp x, k, h => ⟨.vp x, RenV.leaf (fun _ _ => by simp only [AV.rel]) (fun _ _ => by simp only [AV.rel]) (fun _ _ => by simp only [AV.val]) (fun _ _ => by simp only [AV.val]) (by
      rintro e e' cs hr hh ⟨a, mem, mid, h1, h2, hm, hsub, hrr⟩
      rcases hh with hh | hh
      · exact ⟨a, mem, mid, h1, h2, hh _ _ hm, hsub, Tr.rel_mono hr.ro hrr⟩
      · simp [AV.free] at hh), by simpa only [renK] using h⟩
  | .agg xs, k, h => by
    simp only [renK] at h
    obtain ⟨ys, hy, h⟩ := rensK_sound hf h
    refine ⟨_, fun e e' hr hh => ?_, h⟩
    have := hy e e' hr (hh.imp _root_.id (by simp [AV.free]))
    exact ⟨fun cs hx => by simp only [AV.rel] at hx ⊢; exact this.1 _ hx, fun c hx => by simp only [AV.val] at hx ⊢; obtain ⟨cs, h1, h2⟩ := hx; exact ⟨cs, h1, this.1 _ h2⟩⟩
  | .tup xs, k, h => by
    simp only [renK] at h
    obtain ⟨ys, hy, h⟩ := rensK_sound hf h
    refine ⟨_, fun e e' hr hh => ?_, h⟩
    have := hy e e' hr (hh.imp _root_.id (by simp [AV.free]))
    exact ⟨fun cs hx => by simp [AV.rel] at hx, fun c hx => by simp only [AV.val] at hx ⊢; obtain ⟨cs, h1, h2⟩ := hx; exact ⟨cs, h1, this.2 _ h2⟩⟩
  | .fn g xs ys, k, h => by
    simp only [renK] at h
    obtain ⟨xs', hx', h⟩ := rensK_sound hf h
    obtain ⟨ys', hy', h⟩ := rensK_sound hf h
    refine ⟨_, fun e e' hr hh => ?_, h⟩
    have h1 := hx' e e' hr (hh.imp _root_.id (by simp [AV.free]; exact fun a _ => a))
    have h2 := hy' e e' hr (hh.imp _root_.id (by simp [AV.free]))
    exact ⟨fun cs hx => by simp only [AV.rel] at hx ⊢; obtain ⟨vs, ws, a, b, c⟩ := hx; exact ⟨vs, ws, a, h1.2 _ b, h2.2 _ c⟩, fun c hx => by simp only [AV.val] at hx ⊢; obtain ⟨vs, ws, a, b, c⟩ := hx; exact ⟨vs, ws, a, h1.2 _ b, h2.2 _ c⟩⟩
theorem rensK_sound {f : Nat → T → (Nat → T) → T} {R : Nat → Nat → Prop} (hf : FnOK X Q f R) : ∀ {xs : List AV} {k : List AV → T}, sat X Q (rensK f xs k) → ∃ ys, RenVs R xs ys ∧ sat X Q (k ys)
  | [], k, h => ⟨[], fun e e' _ _ => ⟨fun cs hx => hx, fun cs hx => hx⟩, by simpa only [rensK] using h⟩
  | x :: xs, k, h => by
    simp only [rensK] at h
    obtain ⟨y, hy, h⟩ := renK_sound hf h
    obtain ⟨ys, hys, h⟩ := rensK_sound hf h
    refine ⟨_, fun e e' hr hh => ?_, h⟩
    have h1 := hy e e' hr (hh.imp _root_.id (by simp [AV.frees]; exact fun a _ => a))
    have h2 := hys e e' hr (hh.imp _root_.id (by simp [AV.frees]))
    exact ⟨fun cs hx => by simp only [AV.rels] at hx ⊢; obtain ⟨a, b, p, q, r⟩ := hx; exact ⟨a, b, p, h1.1 _ q, h2.1 _ r⟩, fun cs hx => by simp only [AV.vals] at hx ⊢; obtain ⟨a, b, p, q, r⟩ := hx; exact ⟨a, b, p, h1.2 _ q, h2.2 _ r⟩⟩
end

/-! ### Objects -/
def AO.free : AO → Bool
  | .var v => v.free
  | _ => true
def RenO (R : Nat → Nat → Prop) (o o' : AO) : Prop :=
  match o with
  | .var v => ∃ v', o' = .var v' ∧ RenV R v v'
  | o => o' = o
theorem renOK_sound {f : Nat → T → (Nat → T) → T} {R : Nat → Nat → Prop} (hf : FnOK X Q f R) {o : AO} {k : AO → T} (h : sat X Q (renOK f o k)) : ∃ o', RenO R o o' ∧ sat X Q (k o') := by
  cases o with
  | var v =>
    simp only [renOK] at h
    obtain ⟨v', hv, h⟩ := renK_sound hf h
    exact ⟨_, ⟨v', rfl, hv⟩, h⟩
  | row es xs => exact ⟨_, rfl, h⟩
  | map es => exact ⟨_, rfl, h⟩
  | gone => exact ⟨_, rfl, h⟩
theorem RenO.gone {R : Nat → Nat → Prop} {o o' : AO} (h : RenO R o o') : o' = .gone ↔ o = .gone := by
  cases o <;> simp only [RenO] at h
  · obtain ⟨v', rfl, _⟩ := h; simp
  · subst h; simp
  · subst h; simp
  · subst h; simp
theorem RenO.row {R : Nat → Nat → Prop} {o o' : AO} (h : RenO R o o') : isRow o' = isRow o := by
  cases o <;> simp only [RenO] at h
  · obtain ⟨v', rfl, _⟩ := h; rfl
  · subst h; rfl
  · subst h; rfl
  · subst h; rfl
theorem RenO.rel {R : Nat → Nat → Prop} {o o' : AO} (h : RenO R o o') {e e' : Env} (hr : Ren R e e') (hh : Holds e e' ∨ o.free = true) {esz cap : Nat} {n : Option Nat} {ob : Obj} (ho : o.rel e esz cap n ob) : o'.rel e' esz cap n ob := by
  cases o with
  | var v =>
    obtain ⟨v', rfl, hv⟩ := h
    obtain ⟨h0, h00, cs, t, fz, h1, h2, h3⟩ := ho
    exact ⟨h0, h00, cs, t, fz, h1, (hv e e' hr hh).1 _ h2, h3⟩
  | row es xs =>
    simp only [RenO] at h; subst h
    obtain ⟨h1, h0, cs, t, fz, h2, h3, h4, h5, h6, mid, post, h7, h8⟩ := ho
    exact ⟨h1, h0, cs, t, fz, h2, h3, h4, h5, h6, mid, post, h7, Tr.row_mono hr.ro h8⟩
  | map es =>
    simp only [RenO] at h; subst h
    obtain ⟨h0, ents, cl, h1, h2⟩ := ho
    exact ⟨h0, ents, cl, h1, mapRel_mono hr.ro h2⟩
  | gone => simp only [RenO] at h; subst h; trivial

/-! ### What is reached -/
theorem nameIn_iff (b : Nat) : ∀ l : List Nat, nameIn b l = true ↔ b ∈ l
  | [] => by simp [nameIn]
  | c :: r => by
    simp only [nameIn, List.mem_cons]
    cases hb : Nat.beq b c with
    | true => have := beq_eq hb; simp [this]
    | false =>
      have : b ≠ c := by rintro rfl; have := Nat.beq_refl b; simp_all
      simp [this, nameIn_iff b r]

structure Good (H : Hp) (ρ : List Nat) : Prop where
  nodup : ρ.Nodup
  live : ∀ b ∈ ρ, live H b

theorem reachK_sound {k : List Nat → T} : ∀ {n : Nat} {ws acc : List Nat}, Good H acc → sat X Q (reachK H k n ws acc) → ∃ ρ, Good H ρ ∧ sat X Q (k ρ)
  | 0, ws, acc, hg, h => ⟨acc, hg, by simpa only [reachK] using h⟩
  | n + 1, [], acc, hg, h => ⟨acc, hg, by simpa only [reachK] using h⟩
  | n + 1, b :: ws, acc, hg, h => by
    simp only [reachK] at h
    split at h
    · exact reachK_sound hg h
    · rename_i hb
      obtain ⟨o, ho, h⟩ := sat_nthK h
      split at h
      · exact reachK_sound hg h
      · rename_i hne
        rw [snocK_eq] at h
        refine reachK_sound ⟨?_, ?_⟩ h
        · rw [List.nodup_append]
          refine ⟨hg.nodup, by simp, fun x hx y hy => ?_⟩
          simp only [List.mem_singleton] at hy
          subst hy
          rintro rfl
          rw [(nameIn_iff x acc).2 hx] at hb; cases hb
        · intro x hx
          rw [List.mem_append, List.mem_singleton] at hx
          rcases hx with hx | rfl
          · exact hg.live x hx
          · exact ⟨o, ho, hne⟩

theorem posK_sound {b : Nat} {no : T} {k : Nat → T} : ∀ {n : Nat} {l : List Nat}, sat X Q (posK b no k n l) → sat X Q no ∨ ∃ i, l[i]? = some b ∧ sat X Q (k (n + i))
  | n, [], h => .inl (by simpa only [posK] using h)
  | n, c :: r, h => by
    simp only [posK] at h
    split at h
    · rename_i hb
      rw [litK_eq] at h
      exact .inr ⟨0, by rw [beq_eq hb]; rfl, h⟩
    · rcases posK_sound h with h | ⟨i, hi, h⟩
      · exact .inl h
      · exact .inr ⟨i + 1, hi, by rw [show n + (i + 1) = n + 1 + i by omega]; exact h⟩
def inR (ρ : List Nat) (b i : Nat) : Prop := ρ[i]? = some b
theorem inward_ok (ρ : List Nat) : FnOK X Q (inward ρ) (inR ρ) := by
  intro b no k h
  rcases posK_sound h with h | ⟨i, hi, h⟩
  · exact .inl h
  · exact .inr ⟨i, hi, by simpa using h⟩
def outR (ρ : List Nat) (n : Nat) (j b : Nat) : Prop := ρ[j]? = some b ∨ (ρ.length ≤ j ∧ b = n + (j - ρ.length))
theorem outward_ok (ρ : List Nat) (n : Nat) : FnOK X Q (outward ρ n) (outR ρ n) := by
  intro b no k h
  refine .inr ?_
  have : ∀ (l : List Nat) (j : Nat), sat X Q (outward.go n k l j) → ∃ b', outR l n j b' ∧ sat X Q (k b') := by
    intro l
    induction l with
    | nil => intro j h; simp only [outward.go, litK_eq] at h; exact ⟨n + j, .inr ⟨by simp, by simp⟩, h⟩
    | cons c r ih =>
      intro j h
      cases j with
      | zero => simp only [outward.go] at h; exact ⟨c, .inl rfl, h⟩
      | succ j =>
        simp only [outward.go] at h
        obtain ⟨b', hb, h⟩ := ih j h
        refine ⟨b', ?_, h⟩
        rcases hb with hb | ⟨h1, h2⟩
        · exact .inl (by simpa using hb)
        · exact .inr ⟨by simp; omega, by simp; omega⟩
  exact this ρ b h

structure Foc (H : Hp) (R : Nat → Nat → Prop) (l : List Nat) (Hs : Hp) : Prop where
  len : Hs.length = l.length
  get : ∀ (i b : Nat), l[i]? = some b → ∃ o o', H[b]? = some o ∧ RenO R o o' ∧ Hs[i]? = some o'
theorem focK_sound {ρ : List Nat} : ∀ {l : List Nat} {k : Hp → T}, sat X Q (focK H ρ l k) → ∃ Hs, Foc H (inR ρ) l Hs ∧ sat X Q (k Hs)
  | [], k, h => ⟨[], ⟨rfl, fun i b h => by simp at h⟩, by simpa only [focK] using h⟩
  | b :: r, k, h => by
    simp only [focK] at h
    obtain ⟨o, ho, h⟩ := sat_nthK h
    obtain ⟨o', ho', h⟩ := renOK_sound (inward_ok ρ) h
    obtain ⟨os, hos, h⟩ := focK_sound h
    refine ⟨_, ⟨by simp [hos.len], fun i c hc => ?_⟩, h⟩
    cases i with
    | zero => simp at hc; subst hc; exact ⟨o, o', ho, ho', rfl⟩
    | succ i => simp at hc; obtain ⟨a, a', h1, h2, h3⟩ := hos.get i c hc; exact ⟨a, a', h1, h2, by simpa using h3⟩

theorem backK_sound {f : Nat → T → (Nat → T) → T} {R : Nat → Nat → Prop} {ρ : List Nat} {n : Nat} (hf : f = outward ρ n) (hR : FnOK X Q f R) : ∀ {l : List Nat} {os H : Hp} {k : Hp → T}, l.Nodup → (∀ b ∈ l, b < H.length) → l.length ≤ os.length → sat X Q (backK ρ n l os H k) →
    ∃ H', sat X Q (k H') ∧ H'.length = H.length + (os.length - l.length) ∧ (∀ (i b : Nat), l[i]? = some b → ∃ o o', os[i]? = some o ∧ RenO R o o' ∧ H'[b]? = some o') ∧
      (∀ (j : Nat) o, os[l.length + j]? = some o → ∃ o', RenO R o o' ∧ H'[H.length + j]? = some o') ∧ (∀ b, b < H.length → b ∉ l → H'[b]? = H[b]?)
  | [], [], H, k, _, _, _, h => ⟨H, by simpa only [backK] using h, by simp, by simp, by simp, fun _ _ _ => rfl⟩
  | b :: r, [], H, k, _, _, hl, h => by simp at hl
  | b :: r, o :: os, H, k, hn, hb, hl, h => by
    simp only [backK, ← hf] at h
    obtain ⟨o', ho', h⟩ := renOK_sound hR h
    obtain ⟨hlt, h⟩ := sat_setK h
    rw [List.nodup_cons] at hn
    obtain ⟨H', h, h1, h2, h3, h4⟩ := backK_sound hf hR hn.2 (fun c hc => by simpa using hb c (by simp [hc])) (by simpa using hl) h
    refine ⟨H', h, by simpa using h1, ?_, ?_, ?_⟩
    · intro i c hc
      cases i with
      | zero =>
        simp at hc; subst hc
        refine ⟨o, o', rfl, ho', ?_⟩
        rw [h4 b (by simpa using hlt) hn.1]; simp [hlt]
      | succ i => simp at hc; obtain ⟨a, a', p, q, s⟩ := h2 i c hc; exact ⟨a, a', by simpa using p, q, s⟩
    · intro j x hx
      rw [List.length_cons, show r.length + 1 + j = r.length + j + 1 by omega] at hx
      obtain ⟨x', p, q⟩ := h3 j x (by simpa using hx)
      exact ⟨x', p, by simpa using q⟩
    · intro c hc hcl
      simp only [List.mem_cons, not_or] at hcl
      rw [h4 c (by simpa using hc) hcl.2, List.getElem?_set, if_neg (fun e => hcl.1 e.symm)]
  | [], o :: os, H, k, hn, hb, hl, h => by
    simp only [backK, ← hf] at h
    obtain ⟨o', ho', h⟩ := renOK_sound hR h
    rw [snocK_eq] at h
    obtain ⟨H', h, h1, h2, h3, h4⟩ := backK_sound hf hR (l := []) (by simp) (by simp) (by simp) h
    refine ⟨H', h, by simp at h1 ⊢; omega, by simp, ?_, ?_⟩
    · intro j x hx
      cases j with
      | zero =>
        simp at hx; subst hx
        refine ⟨o', ho', ?_⟩
        rw [h4 _ (by simp) (by simp)]; simp
      | succ j =>
        obtain ⟨x', p, q⟩ := h3 j x (by simpa using hx)
        exact ⟨x', p, by rw [List.length_append, List.length_singleton] at q; rw [show H.length + (j + 1) = H.length + 1 + j by omega]; exact q⟩
    · intro b hb' _
      rw [h4 b (by simp; omega) (by simp), List.getElem?_append_left hb']
end Stk
