/- The framework, part 30: closed runs that lean on what calls were shown to give before. -/
import Derived.Test.YthkbahbbdacgeaaDoorZFw29
namespace Stk
open Go

def resO (orc : FuncId → List AV → Hp → Option (AV × Hp)) (qf : FuncId → Bool) (tab : FuncId → Option IF) : Nat → T → Option (List St)
  | 0, _ => none
  | n + 1, t => match t with
    | .ret e fr H => some [⟨e, fr, H⟩]
    | .stuck _ => none
    | .br true t _ => resO orc qf tab n t
    | .br false _ e => resO orc qf tab n e
    | .any t e => match resO orc qf tab n t with
      | some x => (match resO orc qf tab n e with
        | some y => some (unSt x y)
        | none => none)
      | none => none
    | .asrt b k => match b with
      | true => resO orc qf tab n k
      | false => none
    | .idx xs i k => match i with
      | .ofNat j => (match xs[j]? with
        | some y => resO orc qf tab n (k y)
        | none => none)
      | _ => none
    | .rng k m f => resO orc qf tab n (f (k.wrap m))
    | .eqv v v' k => match avEq v v' with
      | true => resO orc qf tab n k
      | false => none
    | .same es es' k => match entsEq es es' with
      | true => resO orc qf tab n k
      | false => none
    | .nxt es es' left over k => match entsEq es es' with
      | true => (match left with
        | [] => resO orc qf tab n over
        | [p] => resO orc qf tab n (k p [])
        | _ => none)
      | false => none
    | .idxD ms i k => (match ms[i]? with
      | some (v, Hs) => resO orc qf tab n (k v Hs)
      | none => none)
    | .call f args H k => match orc f args H with
      | some (r, H') => resO orc qf tab n (k r H')
      | none => match tab f with
      | some ir => (match Nat.ble args.length ir.ntmps with
        | true => (match resO orc qf tab n (bodyE qf f ir args H) with
          | some l => bindSt (fun s => match s.ex, s.fr with
            | .ret, [(_, r)] => resO orc qf tab n (k r s.H)
            | _, _ => none) l
          | none => none)
        | false => none)
      | none => none
    | .loop live keep mv lc fr H k => match resO orc qf tab n (roundT live keep mv lc fr H) with
      | some l => bindSt (fun s => match s.ex with
        | .normal => resO orc qf tab n (.loop live keep mv lc s.fr s.H k)
        | e => resO orc qf tab n (k e s.fr s.H)) l
      | none => none

theorem resO_sound {orc : FuncId → List AV → Hp → Option (AV × Hp)} {qf : FuncId → Bool} {P : Program} {G : Gl} {tab : FuncId → Option IF} (hO : ∀ f args H r H', orc f args H = some (r, H') → ACalls P G f args H fun r1 H1 => r1 = r ∧ H1 = H') (hT : TabOK P G tab) : ∀ (n : Nat) {N : Nat} {t : T} {L : List St}, resO orc qf tab n t = some L → sat (mkX P G N) (fun e fr H => St.mk e fr H ∈ L) t := by
  intro n
  induction n using Nat.strongRecOn with
  | _ n ih =>
    intro N t L h
    cases n with
    | zero => simp [resO] at h
    | succ n =>
      have ih1 : ∀ {N : Nat} {t : T} {L : List St}, resO orc qf tab n t = some L → sat (mkX P G N) (fun e fr H => St.mk e fr H ∈ L) t := ih n (Nat.lt_succ_self n)
      cases t with
      | ret e fr H => simp only [resO, Option.some.injEq] at h; subst h; show St.mk e fr H ∈ [_]; simp
      | stuck s => simp [resO] at h
      | br b t e =>
        cases b with
        | true => exact ⟨fun _ => ih1 h, fun hb => by cases hb⟩
        | false => exact ⟨fun hb => (by cases hb), fun _ => ih1 h⟩
      | any t e =>
        simp only [resO] at h
        split at h
        · rename_i x hx
          split at h
          · rename_i y hy
            cases h
            exact ⟨sat_mono (fun _ _ _ hs => unSt_mem (.inl hs)) (ih1 hx), sat_mono (fun _ _ _ hs => unSt_mem (.inr hs)) (ih1 hy)⟩
          · cases h
        · cases h
      | asrt b k =>
        simp only [resO] at h
        split at h
        · exact ⟨rfl, ih1 h⟩
        · cases h
      | idx xs i k =>
        cases i with
        | ofNat j =>
          simp only [resO] at h
          split at h
          · rename_i x hx; exact ⟨x, by simp, by simpa using hx, ih1 h⟩
          · cases h
        | negSucc j => simp [resO] at h
      | rng k m f => simp only [resO] at h; exact (ih1 h : sat (mkX P G N) _ (f (k.wrap m)))
      | eqv v v' k =>
        simp only [resO] at h
        split at h
        · rename_i hv; exact ⟨avEq_eq hv, ih1 h⟩
        · cases h
      | same es es' k =>
        simp only [resO] at h
        split at h
        · rename_i hv; exact ⟨entsEq_eq hv, ih1 h⟩
        · cases h
      | nxt es es' left over k =>
        simp only [resO] at h
        split at h
        · rename_i hv
          split at h
          · exact ⟨entsEq_eq hv, fun _ => ih1 h, fun j p hp => (by simp at hp)⟩
          · rename_i p0
            refine ⟨entsEq_eq hv, fun hl => (by cases hl), fun j p hp => ?_⟩
            cases j with
            | zero => simp at hp; subst hp; exact ih1 h
            | succ j => simp at hp
          · cases h
        · cases h
      | idxD ms i k =>
        simp only [resO] at h
        split at h
        · rename_i v Hs hx; exact ⟨v, Hs, hx, ih1 h⟩
        · cases h
      | call f args H k =>
        simp only [resO] at h
        split at h
        · rename_i r H' ho
          exact ⟨fun r1 H1 => r1 = r ∧ H1 = H', hO _ _ _ _ _ ho, fun r1 H1 ⟨e1, e2⟩ => by subst e1 e2; exact ih1 h⟩
        split at h
        · rename_i ir hir
          split at h
          · rename_i hble
            split at h
            · rename_i l hl
              have hb := bindSt_mem h
              obtain ⟨fn, h1, h2, h3, h4⟩ := hT.fn f ir hir
              refine ⟨fun r H' => ∃ x, resO orc qf tab n (k r H') = some x ∧ ∀ s ∈ x, s ∈ L, acalls_ofE qf h1 h2 h3 (by rw [h4]; exact Nat.le_of_ble_eq_true hble) (sat_mono ?_ (ih1 hl)), fun r H' ⟨x, hx, hm⟩ => sat_mono (fun _ _ _ hs => hm _ hs) (ih1 hx)⟩
              intro e fr H' hq
              obtain ⟨x, hx, hm⟩ := hb _ hq
              unfold retP
              split at hx
              · rename_i hex hfr
                simp only at hex hfr
                subst hex hfr
                exact ⟨x, hx, hm⟩
              · cases hx
            · cases h
          · cases h
        · cases h
      | loop live keep mv lc fr H k =>
        simp only [resO] at h
        split at h
        · rename_i l hl
          refine ⟨fun e fr' H' => ∃ m, m ≤ n ∧ ∃ x, resO orc qf tab m (k e fr' H') = some x ∧ ∀ s ∈ x, s ∈ L, ?_, fun e fr' H' ⟨m, hm, x, hx, hs⟩ => sat_mono (fun _ _ _ h => hs _ h) (ih m (by omega) hx)⟩
          let σ := { p : Nat × Fr × Hp // p.1 ≤ n ∧ ∃ l L', resO orc qf tab p.1 (roundT live keep mv lc p.2.1 p.2.2) = some l ∧ bindSt (fun s => match s.ex with
              | .normal => resO orc qf tab p.1 (.loop live keep mv lc s.fr s.H k)
              | e => resO orc qf tab p.1 (k e s.fr s.H)) l = some L' ∧ ∀ s ∈ L', s ∈ L }
          exact aloop_of (X := mkX P G N) mkX_ops (σ := σ) (fun y => y.1.2.1) (fun y => y.1.2.2) (fun y => y.1.1) (live := live) (keep := keep) (mv := mv) (c := lc) (fun y => by
            obtain ⟨⟨m, fr1, H1⟩, hm, l1, L1, hl1, hb1, hs1⟩ := y
            simp only at hm hl1 hb1
            have := ih m (by omega) (N := N) hl1
            refine sat_mono ?_ this
            intro e fr' H' hq
            obtain ⟨x, hx, hxs⟩ := bindSt_mem hb1 _ hq
            cases e with
            | normal =>
              cases m with
              | zero => simp [resO] at hx
              | succ m =>
                simp only [resO] at hx
                split at hx
                · rename_i l2 hl2
                  exact ⟨⟨(m, fr', H'), by simp only; omega, l2, x, hl2, hx, fun s h => hs1 s (hxs s h)⟩, rfl, rfl, Nat.lt_succ_self m⟩
                · cases hx
            | exit i => exact ⟨m, hm, x, hx, fun s h => hs1 s (hxs s h)⟩
            | ret => exact ⟨m, hm, x, hx, fun s h => hs1 s (hxs s h)⟩) ⟨(n, fr, H), Nat.le_refl _, l, L, hl, h, fun s h => h⟩
        · cases h

/-- A call that was shown to give something. -/
structure Fact where
  f : FuncId
  args : List AV
  H : Hp
  r : AV
  H' : Hp
def orcL : List Fact → FuncId → List AV → Hp → Option (AV × Hp)
  | [], _, _, _ => none
  | a :: l, f, args, H => match Nat.beq a.f f with
    | true => (match avsEq a.args args with
      | true => (match hpEq a.H H with
        | true => some (a.r, a.H')
        | false => orcL l f args H)
      | false => orcL l f args H)
    | false => orcL l f args H
def FactOK (P : Program) (G : Gl) (a : Fact) : Prop := ACalls P G a.f a.args a.H fun r1 H1 => r1 = a.r ∧ H1 = a.H'
theorem orcL_ok {P : Program} {G : Gl} : ∀ {l : List Fact}, (∀ a ∈ l, FactOK P G a) → ∀ f args H r H', orcL l f args H = some (r, H') → ACalls P G f args H fun r1 H1 => r1 = r ∧ H1 = H'
  | [], _, f, args, H, r, H', h => by simp [orcL] at h
  | a :: l, hl, f, args, H, r, H', h => by
    have ih := fun h => orcL_ok (l := l) (fun b hb => hl b (by simp [hb])) f args H r H' h
    simp only [orcL] at h
    split at h
    · rename_i h1
      split at h
      · rename_i h2
        split at h
        · rename_i h3
          have := hl a (by simp)
          unfold FactOK at this
          rw [beq_eq h1, avsEq_eq h2, hpEq_eq h3] at this
          simp only [Option.some.injEq, Prod.mk.injEq] at h
          rw [h.1, h.2] at this
          exact this
        · exact ih h
      · exact ih h
    · exact ih h
def isFact (r : AV) (H' : Hp) : List St → Bool
  | [] => true
  | s :: l => match s.ex, s.fr with
    | .ret, [(_, r1)] => (match avEq r1 r with
      | true => (match hpEq s.H H' with
        | true => isFact r H' l
        | false => false)
      | false => false)
    | _, _ => false
theorem isFact_mem {r : AV} {H' : Hp} : ∀ {l : List St}, isFact r H' l = true → ∀ s ∈ l, retP (fun r1 H1 => r1 = r ∧ H1 = H') s.ex s.fr s.H
  | [], _, s, hs => by simp at hs
  | a :: l, h, s, hs => by
    simp only [isFact] at h
    split at h
    · rename_i h1 h2
      split at h
      · rename_i h3
        split at h
        · rename_i h4
          rcases List.mem_cons.1 hs with rfl | hs
          · rw [h1, h2]; exact ⟨avEq_eq h3, hpEq_eq h4⟩
          · exact isFact_mem h s hs
        · cases h
      · cases h
    · cases h
def resFact (fs : List Fact) (qf : FuncId → Bool) (tab : FuncId → Option IF) (n : Nat) (a : Fact) (ir : IF) : Bool :=
  match Nat.ble a.args.length ir.ntmps with
  | true => (match resO (orcL fs) qf tab n (bodyE qf a.f ir a.args a.H) with
    | some l => isFact a.r a.H' l
    | none => false)
  | false => false
/-- A closed call, shown by running it. -/
theorem fact_of {P : Program} {G : Gl} {a : Fact} {ir : IF} (h : FunOK P G a.f ir) {l : List (FuncId × IF)} (hT : TabsOK P G l) {fs : List Fact} (hF : ∀ b ∈ fs, FactOK P G b) (qf : FuncId → Bool) (n : Nat) (hn : resFact fs qf (tabL l) n a ir = true) : FactOK P G a := by
  unfold resFact at hn
  split at hn
  · rename_i hb
    split at hn
    · rename_i L hL
      obtain ⟨fn, h1, h2, h3, h4⟩ := h.ex
      exact acalls_ofE qf h1 h2 h3 (by rw [h4]; exact Nat.le_of_ble_eq_true hb) (sat_mono (fun e fr H hm => isFact_mem hn _ hm) (resO_sound (orcL_ok hF) (tabOK_of hT) n hL))
    · cases hn
  · cases hn

end Stk
