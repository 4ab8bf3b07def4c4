/- The framework, part C: what a function leaves, under names that hang on its form alone. -/
import Derived.Test.YthkbahbbdacgeaaDoorFw20
namespace Stk
open Go
variable {X : Cx} {Q : Ex → Fr → Hp → Prop} {e : Env} {H : Hp} {w : World}

/-- The names of the first n blocks that stay: no rows, but for those that an argument names itself. -/
def keepsOf (dir : List Nat) : Nat → Nat → Hp → List Nat
  | 0, _, _ => []
  | _, _, [] => []
  | n + 1, i, o :: os => match o with
    | .gone => keepsOf dir n (i + 1) os
    | .row _ _ => match nameIn i dir with
      | true => i :: keepsOf dir n (i + 1) os
      | false => keepsOf dir n (i + 1) os
    | _ => i :: keepsOf dir n (i + 1) os
def restOf (keeps : List Nat) : List Nat → List Nat
  | [] => []
  | b :: r => match nameIn b keeps with
    | true => restOf keeps r
    | false => b :: restOf keeps r
/-- A name, canonically. -/
def canonN (keeps moved : List Nat) (n : Nat) (b : Nat) (no : T) (k : Nat → T) : T :=
  match nameIn b keeps with
  | true => k b
  | false => posK b no k n moved
/-- The first n blocks. -/
def canonA (f : Nat → T → (Nat → T) → T) (keeps : List Nat) : Nat → Nat → Hp → (Hp → T) → T
  | 0, _, _, k => k []
  | _, _, [], _ => .stuck "canon"
  | n + 1, i, o :: os, k => match nameIn i keeps with
    | true => renOK f o fun o' => canonA f keeps n (i + 1) os fun r => k (o' :: r)
    | false => canonA f keeps n (i + 1) os fun r => k (.gone :: r)
/-- The others. -/
def canonB (f : Nat → T → (Nat → T) → T) (H : Hp) : List Nat → (Hp → T) → T
  | [], k => k []
  | b :: r, k => nthK (fun o => renOK f o fun o' => canonB f H r fun os => k (o' :: os)) b H
def appK {α : Type} : List α → List α → (List α → T) → T
  | [], ys, k => k ys
  | x :: xs, ys, k => appK xs ys fun zs => k (x :: zs)
def memAll (bs : List Nat) : List Nat → Bool
  | [] => true
  | b :: r => match nameIn b bs with
    | true => memAll bs r
    | false => false
def canonG (keeps : List Nat) (n : Nat) (r : AV) (H : Hp) (k : AV → Hp → T) : T :=
  reachK H (fun ρ => match memAll ρ keeps with
    | false => .stuck "canon: too much is reached"
    | true => renK (canonN keeps (restOf keeps ρ) n) r fun r' =>
      canonA (canonN keeps (restOf keeps ρ) n) keeps n 0 H fun A =>
      canonB (canonN keeps (restOf keeps ρ) n) H (restOf keeps ρ) fun B =>
      appK A B fun H' => k r' H') 100 (keeps ++ r.refs) []
def canonK (dir : List Nat) (n : Nat) (r : AV) (H : Hp) (k : AV → Hp → T) : T := canonG (keepsOf dir n 0 H) n r H k
/-- Those of the first n blocks that an argument names itself. -/
def keepsD (dir : List Nat) : Nat → Nat → Hp → List Nat
  | 0, _, _ => []
  | _, _, [] => []
  | n + 1, i, o :: os => match o with
    | .gone => keepsD dir n (i + 1) os
    | _ => match nameIn i dir with
      | true => i :: keepsD dir n (i + 1) os
      | false => keepsD dir n (i + 1) os
def bodyC (f : IF) (args : List AV) (H : Hp) : T :=
  bodyG f args H fun v H' => litK H.length fun n => canonK (AV.refss args) n v H' fun r H'' => .ret .ret [(0, r)] H''
/-- All that was there keeps its name. -/
def bodyCQ (f : IF) (args : List AV) (H : Hp) : T :=
  bodyG f args H fun v H' => litK H.length fun n => canonK (List.range n) n v H' fun r H'' => .ret .ret [(0, r)] H''

/-- Nothing keeps its name but what an argument names. -/
def bodyCD (f : IF) (args : List AV) (H : Hp) : T :=
  bodyG f args H fun v H' => litK H.length fun n => canonG (keepsD (AV.refss args) n 0 H') n v H' fun r H'' => .ret .ret [(0, r)] H''

def canR (keeps moved : List Nat) (n : Nat) (j b : Nat) : Prop := (j ∈ keeps ∧ b = j) ∨ ∃ i : Nat, moved[i]? = some j ∧ b = n + i
theorem canonN_ok (keeps moved : List Nat) (n : Nat) : FnOK X Q (canonN keeps moved n) (canR keeps moved n) := by
  intro b no k h
  unfold canonN at h
  split at h
  · rename_i hb
    exact .inr ⟨b, .inl ⟨(nameIn_iff _ _).1 hb, rfl⟩, h⟩
  · rcases posK_sound h with h | ⟨i, hi, h⟩
    · exact .inl h
    · exact .inr ⟨n + i, .inr ⟨i, hi, rfl⟩, h⟩

theorem keepsOf_mem {dir : List Nat} : ∀ {n i : Nat} {os : Hp} {b : Nat}, b ∈ keepsOf dir n i os → i ≤ b ∧ b < i + n ∧ ∃ o, os[b - i]? = some o ∧ o ≠ .gone
  | 0, i, os, b, h => by simp [keepsOf] at h
  | n + 1, i, [], b, h => by simp [keepsOf] at h
  | n + 1, i, o :: os, b, h => by
    have rcc (h : b ∈ keepsOf dir n (i + 1) os) : i ≤ b ∧ b < i + (n + 1) ∧ ∃ o', (o :: os)[b - i]? = some o' ∧ o' ≠ .gone := by
      obtain ⟨h1, h2, o', h3, h4⟩ := keepsOf_mem h
      refine ⟨by omega, by omega, o', ?_, h4⟩
      rw [show b - i = (b - (i + 1)) + 1 by omega]; simpa using h3
    have hd (hne : o ≠ .gone) (h : b ∈ i :: keepsOf dir n (i + 1) os) : i ≤ b ∧ b < i + (n + 1) ∧ ∃ o', (o :: os)[b - i]? = some o' ∧ o' ≠ .gone := by
      rcases List.mem_cons.1 h with rfl | h
      · exact ⟨Nat.le_refl _, by omega, o, by simp, hne⟩
      · exact rcc h
    cases o with
    | gone => simp only [keepsOf] at h; exact rcc h
    | row es xs =>
      simp only [keepsOf] at h
      split at h
      · exact hd (by simp) h
      · exact rcc h
    | var v => simp only [keepsOf] at h; exact hd (by simp) h
    | map es => simp only [keepsOf] at h; exact hd (by simp) h

theorem keepsD_mem {dir : List Nat} : ∀ {n i : Nat} {os : Hp} {b : Nat}, b ∈ keepsD dir n i os → i ≤ b ∧ b < i + n ∧ ∃ o, os[b - i]? = some o ∧ o ≠ .gone
  | 0, i, os, b, h => by simp [keepsD] at h
  | n + 1, i, [], b, h => by simp [keepsD] at h
  | n + 1, i, o :: os, b, h => by
    have rcc (h : b ∈ keepsD dir n (i + 1) os) : i ≤ b ∧ b < i + (n + 1) ∧ ∃ o', (o :: os)[b - i]? = some o' ∧ o' ≠ .gone := by
      obtain ⟨h1, h2, o', h3, h4⟩ := keepsD_mem h
      refine ⟨by omega, by omega, o', ?_, h4⟩
      rw [show b - i = (b - (i + 1)) + 1 by omega]; simpa using h3
    have hd (hne : o ≠ .gone) (h : b ∈ i :: keepsD dir n (i + 1) os) : i ≤ b ∧ b < i + (n + 1) ∧ ∃ o', (o :: os)[b - i]? = some o' ∧ o' ≠ .gone := by
      rcases List.mem_cons.1 h with rfl | h
      · exact ⟨Nat.le_refl _, by omega, o, by simp, hne⟩
      · exact rcc h
    cases o with
    | gone => simp only [keepsD] at h; exact rcc h
    | row es xs =>
      simp only [keepsD] at h
      split at h
      · exact hd (by simp) h
      · exact rcc h
    | var v =>
      simp only [keepsD] at h
      split at h
      · exact hd (by simp) h
      · exact rcc h
    | map es =>
      simp only [keepsD] at h
      split at h
      · exact hd (by simp) h
      · exact rcc h

theorem restOf_iff {keeps : List Nat} : ∀ {ρ : List Nat} {b : Nat}, b ∈ restOf keeps ρ ↔ b ∈ ρ ∧ b ∉ keeps
  | [], b => by simp [restOf]
  | c :: r, b => by
    simp only [restOf]
    cases hc : nameIn c keeps with
    | true =>
      have hc := (nameIn_iff _ _).1 hc
      simp only [restOf_iff, List.mem_cons]
      constructor
      · rintro ⟨h1, h2⟩; exact ⟨.inr h1, h2⟩
      · rintro ⟨rfl | h1, h2⟩
        · exact absurd hc h2
        · exact ⟨h1, h2⟩
    | false =>
      have hc : c ∉ keeps := fun h => by rw [(nameIn_iff _ _).2 h] at hc; cases hc
      simp only [List.mem_cons, restOf_iff]
      constructor
      · rintro (rfl | ⟨h1, h2⟩)
        · exact ⟨.inl rfl, hc⟩
        · exact ⟨.inr h1, h2⟩
      · rintro ⟨rfl | h1, h2⟩
        · exact .inl rfl
        · exact .inr ⟨h1, h2⟩
theorem restOf_nodup {keeps : List Nat} : ∀ {ρ : List Nat}, ρ.Nodup → (restOf keeps ρ).Nodup
  | [], _ => by simp [restOf]
  | c :: r, h => by
    rw [List.nodup_cons] at h
    simp only [restOf]
    split
    · exact restOf_nodup h.2
    · rw [List.nodup_cons]; exact ⟨fun h1 => h.1 (restOf_iff.1 h1).1, restOf_nodup h.2⟩
theorem memAll_iff {bs : List Nat} : ∀ {l : List Nat}, memAll bs l = true → ∀ b ∈ l, b ∈ bs
  | [], _, b, hb => by simp at hb
  | c :: r, h, b, hb => by
    simp only [memAll] at h
    split at h
    · rename_i hc
      rcases List.mem_cons.1 hb with rfl | hb
      · exact (nameIn_iff _ _).1 hc
      · exact memAll_iff h b hb
    · cases h

theorem canonA_sound {f : Nat → T → (Nat → T) → T} {R : Nat → Nat → Prop} (hf : FnOK X Q f R) {keeps : List Nat} : ∀ {n i : Nat} {os : Hp} {k : Hp → T}, sat X Q (canonA f keeps n i os k) →
    ∃ A, sat X Q (k A) ∧ A.length = n ∧ ∀ (j : Nat) o, A[j]? = some o → (i + j ∈ keeps ∧ ∃ o1, os[j]? = some o1 ∧ RenO R o1 o) ∨ o = .gone
  | 0, i, os, k, h => ⟨[], h, rfl, fun j o hj => by simp at hj⟩
  | n + 1, i, [], k, h => h.elim
  | n + 1, i, o :: os, k, h => by
    simp only [canonA] at h
    split at h
    · rename_i hi
      obtain ⟨o', ho', h⟩ := renOK_sound hf h
      obtain ⟨A, h1, h2, h3⟩ := canonA_sound hf h
      refine ⟨_, h1, by simp [h2], fun j x hx => ?_⟩
      cases j with
      | zero => simp at hx; subst hx; exact .inl ⟨(nameIn_iff _ _).1 hi, o, rfl, ho'⟩
      | succ j =>
        have := h3 j x (by simpa using hx)
        rw [show i + (j + 1) = i + 1 + j by omega]
        exact this.imp (fun ⟨a, o1, b, c⟩ => ⟨a, o1, by simpa using b, c⟩) id
    · obtain ⟨A, h1, h2, h3⟩ := canonA_sound hf h
      refine ⟨_, h1, by simp [h2], fun j x hx => ?_⟩
      cases j with
      | zero => simp at hx; exact .inr hx.symm
      | succ j =>
        have := h3 j x (by simpa using hx)
        rw [show i + (j + 1) = i + 1 + j by omega]
        exact this.imp (fun ⟨a, o1, b, c⟩ => ⟨a, o1, by simpa using b, c⟩) id
theorem canonB_sound {f : Nat → T → (Nat → T) → T} {R : Nat → Nat → Prop} (hf : FnOK X Q f R) : ∀ {l : List Nat} {k : Hp → T}, sat X Q (canonB f H l k) →
    ∃ B, sat X Q (k B) ∧ B.length = l.length ∧ ∀ (i : Nat) o, B[i]? = some o → ∃ (b : Nat) (o1 : AO), l[i]? = some b ∧ H[b]? = some o1 ∧ RenO R o1 o
  | [], k, h => ⟨[], h, rfl, fun j o hj => by simp at hj⟩
  | b :: r, k, h => by
    simp only [canonB] at h
    obtain ⟨o, ho, h⟩ := sat_nthK h
    obtain ⟨o', ho', h⟩ := renOK_sound hf h
    obtain ⟨B, h1, h2, h3⟩ := canonB_sound hf h
    refine ⟨_, h1, by simp [h2], fun i x hx => ?_⟩
    cases i with
    | zero => simp at hx; subst hx; exact ⟨b, o, rfl, ho, ho'⟩
    | succ i => obtain ⟨c, o1, g1, g2, g3⟩ := h3 i x (by simpa using hx); exact ⟨c, o1, by simpa using g1, g2, g3⟩
theorem appK_eq {α : Type} : ∀ (xs ys : List α) (k : List α → T), appK xs ys k = k (xs ++ ys)
  | [], ys, k => rfl
  | x :: xs, ys, k => by simp only [appK, appK_eq xs ys]; rfl

def Env.can (e : Env) (n : Nat) (moved : List Nat) : Env := ⟨fun b => if b < n then e.β b else match moved[b - n]? with
  | some j => e.β j
  | none => .no, e.ro, e.bo⟩

theorem canonG_sound {G : Gl} {keeps : List Nat} {r : AV} {H1 : Hp} {e1 : Env} {w1 : World} {k : AV → Hp → T} (hs : Step G e H w e1 H1 w1) (hkeep : ∀ b ∈ keeps, b < H.length ∧ live H1 b) {c : Value} (hv : AV.val e1 r c) (h : sat X Q (canonG keeps H.length r H1 k)) :
    ∃ r' H2 e2, sat X Q (k r' H2) ∧ AV.val e2 r' c ∧ Step G e H w e2 H2 w1 := by
  unfold canonG at h
  obtain ⟨ρ, hg, h⟩ := reachK_sound (acc := []) ⟨by simp, by simp⟩ h
  split at h
  · exact h.elim
  · rename_i hmem
    have hmem := memAll_iff hmem
    have hmv : ∀ b ∈ restOf keeps ρ, live H1 b ∧ b ∉ keeps := fun b hb => ⟨hg.live b (restOf_iff.1 hb).1, (restOf_iff.1 hb).2⟩
    have hnd : (restOf keeps ρ).Nodup := restOf_nodup hg.nodup
    generalize restOf keeps ρ = moved at h hmv hnd
    have hf := canonN_ok (X := X) (Q := Q) keeps moved H.length
    obtain ⟨r', hr', h⟩ := renK_sound hf h
    obtain ⟨A, h, hA, gA⟩ := canonA_sound hf h
    obtain ⟨B, h, hB, gB⟩ := canonB_sound hf h
    rw [appK_eq] at h
    have hle := hs.len
    have e2lt : ∀ b, b < H.length → (e1.can H.length moved).β b = e1.β b := fun b hb => by simp only [Env.can]; rw [if_pos hb]
    have e2ge : ∀ i j : Nat, moved[i]? = some j → (e1.can H.length moved).β (H.length + i) = e1.β j := fun i j hj => by
      simp only [Env.can]; rw [if_neg (by omega), Nat.add_sub_cancel_left, hj]
    have hren : Ren (canR keeps moved H.length) e1 (e1.can H.length moved) := by
      refine ⟨fun j b hR _ => ?_, MemLe.refl _⟩
      rcases hR with ⟨hj, rfl⟩ | ⟨i, hi, rfl⟩
      · exact e2lt _ (hkeep _ hj).1
      · exact e2ge i j hi
    have hholds : Holds e1 (e1.can H.length moved) := fun k m h => h
    have get : ∀ b o, (A ++ B)[b]? = some o → o ≠ .gone → ∃ (j : Nat) (o1 : AO), H1[j]? = some o1 ∧ RenO (canR keeps moved H.length) o1 o ∧ (e1.can H.length moved).β b = e1.β j ∧ canR keeps moved H.length j b := by
      intro b o ho hne
      by_cases hb : b < H.length
      · rw [List.getElem?_append_left (by omega)] at ho
        rcases gA b o ho with ⟨h1, o1, h2, h3⟩ | h1
        · rw [Nat.zero_add] at h1
          exact ⟨b, o1, h2, h3, e2lt b hb, .inl ⟨h1, rfl⟩⟩
        · exact absurd h1 hne
      · rw [List.getElem?_append_right (by omega), hA] at ho
        obtain ⟨j, o1, h1, h2, h3⟩ := gB _ o ho
        have := e2ge _ j h1
        rw [show H.length + (b - H.length) = b by omega] at this
        exact ⟨j, o1, h2, h3, this, .inr ⟨_, h1, by omega⟩⟩
    have fn : ∀ j b b', canR keeps moved H.length j b → canR keeps moved H.length j b' → b = b' := by
      intro j b b' h1 h2
      rcases h1 with ⟨h1, rfl⟩ | ⟨i, h1, rfl⟩ <;> rcases h2 with ⟨h2, rfl⟩ | ⟨i', h2, rfl⟩
      · rfl
      · exact absurd h1 (hmv _ (mem_of_get h2)).2
      · exact absurd h2 (hmv _ (mem_of_get h1)).2
      · have : i = i' := (List.getElem?_inj (lt_of_get h1) hnd).1 (h1.trans h2.symm)
        rw [this]
    have hrel1 := hs.rel
    refine ⟨r', A ++ B, e1.can H.length moved, h, (hr' _ _ hren (.inl hholds)).2 _ hv, ⟨?_, ?_, ?_, ?_, ?_, ?_, hrel1.mem, hrel1.gl⟩, ⟨fun b hb => by rw [e2lt b hb]; exact hs.le.β b hb, hs.le.ro, hs.le.bo⟩, by simp [hA], hs.wle, ?_, hs.frz⟩
    · intro b o ho hne blk esz cap n hβ
      obtain ⟨j, o1, h1, h2, h3, _⟩ := get b o ho hne
      rw [h3] at hβ
      obtain ⟨ob, h4, h5⟩ := hrel1.obj j o1 h1 (fun h => hne (h2.gone.2 h)) blk esz cap n hβ
      exact ⟨ob, h4, h2.rel hren (.inl hholds) h5⟩
    · intro b o ho hne hβ
      obtain ⟨j, o1, h1, h2, h3, _⟩ := get b o ho hne
      rw [h3] at hβ
      obtain ⟨esz, rfl⟩ := hrel1.virt j o1 h1 (fun h => hne (h2.gone.2 h)) hβ
      exact ⟨esz, h2⟩
    · intro b hb
      rw [List.length_append, hA, hB] at hb
      by_cases hbl : b < H.length
      · rw [e2lt b hbl]; exact hrel1.bound b (by omega)
      · have hi : moved[b - H.length]? = some (moved[b - H.length]'(by omega)) := List.getElem?_eq_getElem _
        have := e2ge _ _ hi
        rw [show H.length + (b - H.length) = b by omega] at this
        rw [this]
        obtain ⟨o, ho, _⟩ := (hmv _ (mem_of_get hi)).1
        exact hrel1.bound _ (lt_of_get ho)
    · intro b hb
      rw [List.length_append, hA, hB]
      by_cases hbl : b < H.length
      · omega
      · simp only [Env.can] at hb
        rw [if_neg hbl] at hb
        cases hm : moved[b - H.length]? with
        | none => rw [hm] at hb; simp at hb
        | some j => have := lt_of_get hm; omega
    · rintro b b' ⟨o, ho, hne⟩ ⟨o', ho', hne'⟩ blk s c n s' c' n' hβ hβ'
      obtain ⟨j, o1, h1, h2, h3, h4⟩ := get b o ho hne
      obtain ⟨j', o1', h1', h2', h3', h4'⟩ := get b' o' ho' hne'
      rw [h3] at hβ; rw [h3'] at hβ'
      have := hrel1.inj j j' ⟨o1, h1, fun h => hne (h2.gone.2 h)⟩ ⟨o1', h1', fun h => hne' (h2'.gone.2 h)⟩ _ _ _ _ _ _ _ hβ hβ'
      subst this
      exact fn j b b' h4 h4'
    · rintro b ⟨o, ho, hne⟩ blk s c n hβ
      obtain ⟨j, o1, h1, h2, h3, _⟩ := get b o ho hne
      rw [h3] at hβ
      exact hrel1.sep j ⟨o1, h1, fun h => hne (h2.gone.2 h)⟩ _ _ _ _ hβ
    · rintro k ⟨b, ⟨o, ho, hne⟩, s, c, n, hβ⟩ hk
      obtain ⟨j, o1, h1, h2, h3, _⟩ := get b o ho hne
      rw [h3] at hβ
      exact hs.own k ⟨j, ⟨o1, h1, fun h => hne (h2.gone.2 h)⟩, s, c, n, hβ⟩ hk

theorem canon_sound {G : Gl} {dir : List Nat} {r : AV} {H1 : Hp} {e1 : Env} {w1 : World} {k : AV → Hp → T} (hs : Step G e H w e1 H1 w1) {c : Value} (hv : AV.val e1 r c) (h : sat X Q (canonK dir H.length r H1 k)) :
    ∃ r' H2 e2, sat X Q (k r' H2) ∧ AV.val e2 r' c ∧ Step G e H w e2 H2 w1 :=
  canonG_sound hs (fun b hb => by
    obtain ⟨_, h2, o, h3, h4⟩ := keepsOf_mem hb
    exact ⟨by omega, o, by simpa using h3, h4⟩) hv h

theorem acalls_ofC {P : Program} {G : Gl} {f : FuncId} {fn : Func} {ir : IF} (hf : P.funcs[f]? = some fn) (hname : (fn.name == "runtime.NumGoroutine") = false) (hc : chkF P G fn ir = true) {args : List AV} {H : Hp} {Q : AV → Hp → Prop}
    (hl : args.length ≤ fn.ntmps) (h : sat (mkX P G fn.ntmps) (retP Q) (bodyC ir args H)) : ACalls P G f args H Q := by
  have h0 := acalls_ofG hf hname hc hl h
  refine ⟨h0.1, fun e w cargs hr hv => Calls.mono (h0.2 e w cargs hr hv) ?_⟩
  rintro en w' ⟨r, c, e', H', rfl, hq, hrv, hst⟩
  rw [litK_eq] at hq
  obtain ⟨r', H2, e2, h1, h2, h3⟩ := canon_sound hst hrv hq
  exact ⟨r', c, e2, H2, rfl, h1, h2, h3⟩
theorem acalls_ofQ {P : Program} {G : Gl} {f : FuncId} {fn : Func} {ir : IF} (hf : P.funcs[f]? = some fn) (hname : (fn.name == "runtime.NumGoroutine") = false) (hc : chkF P G fn ir = true) {args : List AV} {H : Hp} {Q : AV → Hp → Prop}
    (hl : args.length ≤ fn.ntmps) (h : sat (mkX P G fn.ntmps) (retP Q) (bodyCQ ir args H)) : ACalls P G f args H Q := by
  have h0 := acalls_ofG hf hname hc hl h
  refine ⟨h0.1, fun e w cargs hr hv => Calls.mono (h0.2 e w cargs hr hv) ?_⟩
  rintro en w' ⟨r, c, e', H', rfl, hq, hrv, hst⟩
  rw [litK_eq] at hq
  obtain ⟨r', H2, e2, h1, h2, h3⟩ := canon_sound hst hrv hq
  exact ⟨r', c, e2, H2, rfl, h1, h2, h3⟩
theorem acalls_ofD {P : Program} {G : Gl} {f : FuncId} {fn : Func} {ir : IF} (hf : P.funcs[f]? = some fn) (hname : (fn.name == "runtime.NumGoroutine") = false) (hc : chkF P G fn ir = true) {args : List AV} {H : Hp} {Q : AV → Hp → Prop}
    (hl : args.length ≤ fn.ntmps) (h : sat (mkX P G fn.ntmps) (retP Q) (bodyCD ir args H)) : ACalls P G f args H Q := by
  have h0 := acalls_ofG hf hname hc hl h
  refine ⟨h0.1, fun e w cargs hr hv => Calls.mono (h0.2 e w cargs hr hv) ?_⟩
  rintro en w' ⟨r, c, e', H', rfl, hq, hrv, hst⟩
  rw [litK_eq] at hq
  obtain ⟨r', H2, e2, h1, h2, h3⟩ := canonG_sound hst (fun b hb => by
    obtain ⟨_, h2, o, h3, h4⟩ := keepsD_mem hb
    exact ⟨by omega, o, by simpa using h3, h4⟩) hrv hq
  exact ⟨r', c, e2, H2, rfl, h1, h2, h3⟩
end Stk
