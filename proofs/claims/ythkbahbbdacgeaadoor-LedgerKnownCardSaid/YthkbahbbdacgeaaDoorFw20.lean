/- The framework, part 20: the rule of loops. -/
import Derived.Test.YthkbahbbdacgeaaDoorFw19
namespace Stk
open Go
variable {X : Cx} {Q : Ex → Fr → Hp → Prop} {e : Env} {H : Hp} {w : World}

theorem kind_keep {G : Gl} {e e' : Env} {H H' : Hp} {w w' : World} (hr : Rel G e H w) {b : Nat} {o o' : AO} (ho : H[b]? = some o) (hrow : isRow o = false) (hne : o ≠ .gone) (hβ : e'.β b = e.β b) (hr' : Rel G e' H' w') (ho' : H'[b]? = some o') : isRow o' = false := by
  cases o' with
  | var v => rfl
  | map es => rfl
  | gone => rfl
  | row es xs =>
    exfalso
    cases hb : e.β b with
    | no => exact hr.bound b (lt_of_get ho) hb
    | virt =>
      obtain ⟨esz, rfl⟩ := hr.virt b o ho hne hb
      cases hrow
    | «at» blk s c n =>
      obtain ⟨ob, _, h1⟩ := hr.obj b o ho hne blk s c n hb
      obtain ⟨ob', _, h2⟩ := hr'.obj b _ ho' (by simp) blk s c n (by rw [hβ, hb])
      have hn2 : n = some xs.length := h2.2.1
      have hn1 : n = none := by
        cases o with
        | var v => exact h1.1
        | map es => exact h1.1
        | row _ _ => cases hrow
        | gone => exact absurd rfl hne
      rw [hn1] at hn2; cases hn2

theorem stays_sound : ∀ {ms : List Bool} {ρ : List Nat} {n : Nat}, stays n ms ρ = true → ∀ (i : Nat), ms[i]? = some false → ρ[i]? = some (n + i)
  | [], ρ, n, h, i, ho => by simp at ho
  | x :: os, [], n, h, i, ho => by
    cases x with
    | true =>
      simp only [stays] at h
      cases i with
      | zero => simp at ho
      | succ i => have := stays_sound h i (by simpa using ho); simp at this
    | false => simp [stays] at h
  | x :: os, b :: r, n, h, i, ho => by
    have two : (x = true ∧ stays (n + 1) os r = true) ∨ (b = n ∧ stays (n + 1) os r = true) := by
      cases x with
      | true => exact .inl ⟨rfl, by simpa only [stays] using h⟩
      | false => simp only [stays, Bool.and_eq_true] at h; exact .inr ⟨(beq_eq h.1).symm, h.2⟩
    cases i with
    | zero =>
      simp at ho; subst ho
      rcases two with ⟨h1, _⟩ | ⟨h1, _⟩
      · cases h1
      · simp [h1]
    | succ i =>
      have h2 : stays (n + 1) os r = true := by rcases two with ⟨_, h2⟩ | ⟨_, h2⟩ <;> exact h2
      have := stays_sound h2 i (by simpa using ho)
      simp only [List.getElem?_cons_succ]
      rw [this]; congr 1; omega

theorem trim_frame {fr : Fr} {a : Act} (hf : FrR X.N e fr a) (keep : List Nat) : FrR X.N e (zipFr keep (keep.map (fr.at ·))) a := by
  refine ⟨hf.size, hf.defers, fun t => ?_⟩
  rcases zipFr_at (live := keep) (vs := keep.map (fr.at ·)) t with ⟨i, h1, h2⟩ | h1
  · rw [List.getElem?_map, h1] at h2
    have h2 : fr.at t = (zipFr keep (keep.map (fr.at ·))).at t := Option.some.inj h2
    rw [← h2]; exact hf.slot t
  · rw [h1]; simp [AV.val]

/-- What one round must come to. -/
def roundP {σ : Type} (fr : σ → Fr) (Hs : σ → Hp) (μ : σ → Nat) (x : σ) (Q : Ex → Fr → Hp → Prop) : Ex → Fr → Hp → Prop
  | .normal, fr', H' => ∃ y, fr' = fr y ∧ H' = Hs y ∧ μ y < μ x
  | ex, fr', H' => Q ex fr' H'

theorem aloop_of (hX : OpsOK X) {σ : Type} (fr : σ → Fr) (Hs : σ → Hp) (μ : σ → Nat) {live keep mv : List Nat} {c : IC} {Q : Ex → Fr → Hp → Prop}
    (round : ∀ x, sat X (roundP fr Hs μ x Q) (roundT live keep mv c (fr x) (Hs x))) (x : σ) : ALoop X mv c (fr x) (Hs x) Q := by
  intro code hc e0 w0 a0 hr0 hf0
  refine wp_loop_ghost (fun n a w => ∃ y e, μ y = n ∧ FrR X.N e (fr y) a ∧ StepL X.G mv e0 (Hs x) w0 e (Hs y) w ∧ ∀ (b : Nat) o, (Hs x)[b]? = some o → mvd mv b o = false → o ≠ .gone → ∃ o', (Hs y)[b]? = some o' ∧ mvd mv b o' = false ∧ o' ≠ .gone) (μ x) ?_ ?_
  · exact ⟨x, e0, rfl, hf0, ⟨hr0, fun _ _ _ _ _ => rfl, MemLe.refl _, rfl, WLe.refl _ _, fun _ h _ => h, fun _ _ h _ => .inl h, fun b o h1 h2 _ => ⟨o, h1, h2⟩⟩, fun b o h1 h2 h3 => ⟨o, h1, h2, h3⟩⟩
  · rintro n a w ⟨y, e, rfl, hf, hL, hK⟩
    obtain ⟨ms, hround, hms⟩ := moves_sound (round y)
    refine wp_mono (code_sound hX c hc hL.rel hf hround) ?_
    rintro ex a' w' ⟨ex', fr', e', H', hex, hk, hf', hst⟩
    -- the steps so far, one after the other
    have hβ : ∀ (b : Nat) (o : AO), (Hs x)[b]? = some o → mvd mv b o = false → o ≠ .gone → e'.β b = e0.β b := fun b o h1 h2 h3 => by
      obtain ⟨o', g1, _, _⟩ := hK b o h1 h2 h3
      rw [hst.le.β b (lt_of_get g1), hL.β b o h1 h2 h3]
    have hro := hL.ro.trans hst.le.ro
    have hbo : e'.bo = e0.bo := hst.le.bo.trans hL.bo
    have hwle : WLe (fun k => ¬ Owns e0 (Hs x) k) w0 w' := hL.wle.trans hst.wle (fun k hk hn ho => hn (hL.own k ho hk))
    have hown : ∀ k, Owns e' H' k → k < w0.heap.size → Owns e0 (Hs x) k := fun k hk hl => hL.own k (hst.own k hk (Nat.lt_of_lt_of_le hl hL.wle.size)) hl
    have hfrz : ∀ k m, e'.ro k = some m → k < w0.heap.size → e0.ro k = some m ∨ Owns e0 (Hs x) k := fun k m hk hl => by
      rcases hst.frz k m hk (Nat.lt_of_lt_of_le hl hL.wle.size) with h | h
      · exact hL.frz k m h hl
      · exact .inr (hL.own k h hl)
    have hkeep : ∀ (b : Nat) (o : AO), (Hs x)[b]? = some o → mvd mv b o = false → o ≠ .gone → ∃ o', H'[b]? = some o' ∧ mvd mv b o' = false := fun b o h1 h2 h3 => by
      obtain ⟨o1, g1, g2, g3⟩ := hK b o h1 h2 h3
      have hlt : b < H'.length := Nat.lt_of_lt_of_le (lt_of_get g1) hst.len
      refine ⟨H'[b], by simp [hlt], ?_⟩
      have hk := kind_keep hL.rel g1 (mvd_row g2) g3 (hst.le.β b (lt_of_get g1)) hst.rel (o' := H'[b]) (by simp [hlt])
      rw [mvd_eq (o := o1) (by rw [hk, mvd_row g2])]; exact g2
    have out (ex' : Ex) (hq : Q ex' (zipFr keep (keep.map (fr'.at ·))) H') (hex : ExR ex ex') : ∃ ex' fr' e' H', ExR ex ex' ∧ Q ex' fr' H' ∧ FrR X.N e' fr' a' ∧ StepL X.G mv e0 (Hs x) w0 e' H' w' :=
      ⟨ex', _, e', H', hex, hq, trim_frame hf' keep, hst.rel, hβ, hro, hbo, hwle, hown, hfrz, hkeep⟩
    cases ex <;> cases ex' <;> simp only [ExR] at hex
    · simp only [liveK_eq] at hk
      obtain ⟨ρ, hg, hk⟩ := reachK_sound (acc := []) ⟨by simp, by simp⟩ hk
      split at hk
      · rename_i hstay
        have hstay := stays_sound hstay
        obtain ⟨vs', hvs, hk⟩ := rensK_sound (inward_ok ρ) hk
        obtain ⟨H2, hfo, hk⟩ := focK_sound hk
        obtain ⟨z, h1, h2, hlt⟩ := hk
        have hbo2 := boOK_self hst.rel hg
        have hfr := foc_frame hf' hvs (foc_ren e' ρ e'.bo) (foc_holds hbo2)
        have hrel := foc_rel hst.rel hg hfo hbo2
        rw [h1] at hfr
        rw [h2] at hrel hfo
        have hpos : ∀ (b : Nat) (o : AO), (Hs x)[b]? = some o → mvd mv b o = false → o ≠ .gone → ρ[b]? = some b := fun b o k1 k2 k3 => by
          obtain ⟨o1, g1, g2, g3⟩ := hK b o k1 k2 k3
          have := hstay b (by rw [hms.get b o1 g1, g2])
          rw [this]; congr 1; omega
        have hK2 : ∀ (b : Nat) (o : AO), (Hs x)[b]? = some o → mvd mv b o = false → o ≠ .gone → ∃ o', (Hs z)[b]? = some o' ∧ mvd mv b o' = false ∧ o' ≠ .gone := fun b o k1 k2 k3 => by
          have hp := hpos b o k1 k2 k3
          obtain ⟨o1, o2, g1, g2, g3⟩ := hfo.get b b hp
          obtain ⟨o1', g4, g5⟩ := hkeep b o k1 k2 k3
          rw [g1] at g4; obtain rfl := Option.some.inj g4
          obtain ⟨o1'', g6, g7⟩ := hg.live b (mem_of_get hp)
          rw [g1] at g6; obtain rfl := Option.some.inj g6
          exact ⟨o2, g3, by rw [mvd_eq g2.row]; exact g5, fun h => g7 (g2.gone.1 h)⟩
        refine ⟨_, hlt, z, _, rfl, hfr, ⟨hrel, fun b o k1 k2 k3 => ?_, hro, hbo, hwle, fun k hk hl => ?_, hfrz, fun b o k1 k2 k3 => ?_⟩, hK2⟩
        · rw [foc_β (hpos b o k1 k2 k3)]; exact hβ b o k1 k2 k3
        · obtain ⟨b', _, hl', r⟩ := foc_owns hg hfo hk
          exact hown k ⟨b', hl', r⟩ hl
        · obtain ⟨o', g1, g2, _⟩ := hK2 b o k1 k2 k3
          exact ⟨o', g1, g2⟩
      · exact hk.elim
    · rename_i i j
      simp only [liveK_eq] at hk
      exact out (.exit j) hk hex
    · simp only [liveK_eq] at hk
      exact out .ret hk trivial
end Stk
