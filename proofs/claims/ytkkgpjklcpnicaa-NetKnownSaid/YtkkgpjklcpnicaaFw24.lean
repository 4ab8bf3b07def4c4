/- The framework, part 24: closed runs. -/
import Derived.Test.YtkkgpjklcpnicaaFw23
namespace Stk
open Go

theorem sat_mono {X : Cx} {Q Q' : Ex → Fr → Hp → Prop} (hq : ∀ e fr H, Q e fr H → Q' e fr H) : ∀ {t : T}, sat X Q t → sat X Q' t := by
  intro t
  induction t with
  | ret e fr H => exact fun h => hq _ _ _ h
  | stuck s => exact fun h => h
  | br b t e iht ihe => exact fun h => ⟨fun hb => iht (h.1 hb), fun hb => ihe (h.2 hb)⟩
  | any t e iht ihe => exact fun h => ⟨iht h.1, ihe h.2⟩
  | asrt b k ih => exact fun h => ⟨h.1, ih h.2⟩
  | idx xs i k ih => exact fun ⟨x, h1, h2, h3⟩ => ⟨x, h1, h2, ih x h3⟩
  | rng k n f ih => exact fun h => ih _ h
  | eqv v v' k ih => exact fun h => ⟨h.1, ih h.2⟩
  | call f args H k ih => exact fun ⟨Q0, h1, h2⟩ => ⟨Q0, h1, fun r H' hr => ih r H' (h2 r H' hr)⟩
  | loop live c fr H k ih => exact fun ⟨Q0, h1, h2⟩ => ⟨Q0, h1, fun e fr' H' hr => ih e fr' H' (h2 e fr' H' hr)⟩

def avEq : AV → AV → Bool
  | .t x, .t y => x.same y
  | .undef, .undef => true
  | .mp a, .mp b => Nat.beq a b
  | .tup [], .tup [] => true
  | _, _ => false
theorem avEq_eq {a b : AV} (h : avEq a b = true) : a = b := by
  unfold avEq at h
  split at h
  · rw [Tr.same_eq h]
  · rfl
  · rw [beq_eq h]
  · rfl
  · cases h

/-- Each run of a closed tree comes to what q wants. -/
def okT (tab : FuncId → Option IF) : Nat → T → (Ex → Fr → Hp → Bool) → Bool
  | 0, _, _ => false
  | n + 1, t, q => match t with
    | .ret e fr H => q e fr H
    | .stuck _ => false
    | .br true t _ => okT tab n t q
    | .br false _ e => okT tab n e q
    | .any t e => okT tab n t q && okT tab n e q
    | .asrt b k => b && okT tab n k q
    | .idx xs i k => match i with
      | .ofNat j => (match xs[j]? with
        | some x => okT tab n (k x) q
        | none => false)
      | _ => false
    | .rng k m f => okT tab n (f (k.wrap m)) q
    | .eqv v v' k => avEq v v' && okT tab n k q
    | .call f args H k => match tab f with
      | some ir => Nat.ble args.length ir.ntmps && okT tab n (bodyT ir args H) fun e fr H' => match e, fr with
        | .ret, [(_, r)] => okT tab n (k r H') q
        | _, _ => false
      | none => false
    | .loop live c fr H k => okT tab n (roundT live c fr H) fun e fr' H' => match e with
      | .normal => okT tab n (.loop live c fr' H' k) q
      | e => okT tab n (k e fr' H') q

structure TabOK (P : Program) (G : Gl) (tab : FuncId → Option IF) : Prop where
  fn : ∀ f ir, tab f = some ir → ∃ fn, P.funcs[f]? = some fn ∧ (fn.name == "runtime.NumGoroutine") = false ∧ chkF P G fn ir = true ∧ fn.ntmps = ir.ntmps

theorem okT_sound {P : Program} {G : Gl} {tab : FuncId → Option IF} (hT : TabOK P G tab) : ∀ (n : Nat) {N : Nat} {t : T} {q : Ex → Fr → Hp → Bool}, okT tab n t q = true → sat (mkX P G N) (fun e fr H => q e fr H = true) t := by
  intro n
  induction n using Nat.strongRecOn with
  | _ n ih =>
    intro N t q h
    cases n with
    | zero => simp [okT] at h
    | succ n =>
      have ih1 : ∀ {N : Nat} {t : T} {q : Ex → Fr → Hp → Bool}, okT tab n t q = true → sat (mkX P G N) (fun e fr H => q e fr H = true) t := ih n (Nat.lt_succ_self n)
      cases t with
      | ret e fr H => exact h
      | stuck s => simp [okT] at h
      | br b t e =>
        cases b with
        | true => exact ⟨fun _ => ih1 h, fun hb => by cases hb⟩
        | false => exact ⟨fun hb => (by cases hb), fun _ => ih1 h⟩
      | any t e => simp only [okT, Bool.and_eq_true] at h; exact ⟨ih1 h.1, ih1 h.2⟩
      | asrt b k => simp only [okT, Bool.and_eq_true] at h; exact ⟨h.1, ih1 h.2⟩
      | idx xs i k =>
        cases i with
        | ofNat j =>
          simp only [okT] at h
          split at h
          · rename_i x hx; exact ⟨x, by simp, by simpa using hx, ih1 h⟩
          · cases h
        | negSucc j => simp [okT] at h
      | rng k m f => simp only [okT] at h; exact (ih1 h : sat (mkX P G N) (fun e fr H => q e fr H = true) (f (k.wrap m)))
      | eqv v v' k => simp only [okT, Bool.and_eq_true] at h; exact ⟨avEq_eq h.1, ih1 h.2⟩
      | call f args H k =>
        simp only [okT] at h
        split at h
        · rename_i ir hir
          simp only [Bool.and_eq_true] at h
          obtain ⟨fn, h1, h2, h3, h4⟩ := hT.fn f ir hir
          refine ⟨fun r H' => okT tab n (k r H') q = true, acalls_of h1 h2 h3 (by rw [h4]; exact Nat.le_of_ble_eq_true h.1) (sat_mono ?_ (ih1 h.2)), fun r H' hr => ih1 hr⟩
          intro e fr H' hq
          unfold retP
          split at hq
          · exact hq
          · cases hq
        · cases h
      | loop live c fr H k =>
        simp only [okT] at h
        refine ⟨fun e fr' H' => okT tab n (k e fr' H') q = true ∨ ∃ m, m ≤ n ∧ okT tab m (k e fr' H') q = true, ?_, fun e fr' H' hr => ?_⟩
        · let σ := { p : Nat × Fr × Hp // p.1 ≤ n ∧ okT tab p.1 (roundT live c p.2.1 p.2.2) (fun e fr' H' => match e with
            | .normal => okT tab p.1 (.loop live c fr' H' k) q
            | e => okT tab p.1 (k e fr' H') q) = true }
          exact aloop_of (X := mkX P G N) mkX_ops (σ := σ) (fun y => y.1.2.1) (fun y => y.1.2.2) (fun y => y.1.1) (live := live) (c := c) (fun y => by
            obtain ⟨⟨m, fr1, H1⟩, hm, hy⟩ := y
            have := ih m (by omega) (N := N) hy
            refine sat_mono ?_ this
            intro e fr' H' hq
            cases e with
            | normal =>
              cases m with
              | zero => simp [okT] at hq
              | succ m =>
                simp only [okT] at hq
                exact ⟨⟨(m, fr', H'), by simp only at hm; omega, hq⟩, rfl, rfl, Nat.lt_succ_self m⟩
            | exit i => exact .inr ⟨m, hm, hq⟩
            | ret => exact .inr ⟨m, hm, hq⟩) ⟨(n, fr, H), Nat.le_refl _, h⟩
        · rcases hr with hr | ⟨m, hm, hr⟩
          · exact ih1 hr
          · exact ih m (by omega) hr
end Stk
