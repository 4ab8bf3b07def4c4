/- The framework, part 29: closed runs whose ways are put together again: all the states that a run may come to. -/
import Derived.Test.YthkbahbbdacgeaaDoorZj8
namespace Stk
open Go

def prEq : List (Tr × Tr) → List (Tr × Tr) → Bool
  | [], [] => true
  | (a, b) :: r, (c, d) :: s => a.same c && b.same d && prEq r s
  | _, _ => false
theorem prEq_eq : ∀ {a b : List (Tr × Tr)}, prEq a b = true → a = b
  | [], b, h => by cases b <;> simp_all [prEq]
  | (x, y) :: r, b, h => by
    cases b with
    | nil => simp [prEq] at h
    | cons c s =>
      obtain ⟨c, d⟩ := c
      simp only [prEq, Bool.and_eq_true] at h
      rw [Tr.same_eq h.1.1, Tr.same_eq h.1.2, prEq_eq h.2]
def aoEq : AO → AO → Bool
  | .var x, .var y => avEq x y
  | .row e xs, .row f ys => Nat.beq e f && Tr.sames xs ys
  | .map xs, .map ys => prEq xs ys
  | .gone, .gone => true
  | _, _ => false
theorem aoEq_eq : ∀ {a b : AO}, aoEq a b = true → a = b
  | .var x, b, h => by cases b <;> simp only [aoEq, Bool.false_eq_true] at h; rw [avEq_eq h]
  | .row e xs, b, h => by
    cases b <;> simp only [aoEq, Bool.false_eq_true, Bool.and_eq_true] at h
    rw [beq_eq h.1, Tr.sames_eq h.2]
  | .map xs, b, h => by cases b <;> simp only [aoEq, Bool.false_eq_true] at h; rw [prEq_eq h]
  | .gone, b, h => by cases b <;> simp only [aoEq, Bool.false_eq_true] at h; rfl
def hpEq : Hp → Hp → Bool
  | [], [] => true
  | a :: r, b :: s => aoEq a b && hpEq r s
  | _, _ => false
theorem hpEq_eq : ∀ {a b : Hp}, hpEq a b = true → a = b
  | [], b, h => by cases b <;> simp_all [hpEq]
  | x :: r, b, h => by
    cases b <;> simp only [hpEq, Bool.and_eq_true, Bool.false_eq_true] at h
    rw [aoEq_eq h.1, hpEq_eq h.2]
def frEq : Fr → Fr → Bool
  | [], [] => true
  | (n, a) :: r, (m, b) :: s => Nat.beq n m && avEq a b && frEq r s
  | _, _ => false
theorem frEq_eq : ∀ {a b : Fr}, frEq a b = true → a = b
  | [], b, h => by cases b <;> simp_all [frEq]
  | (x, y) :: r, b, h => by
    cases b with
    | nil => simp [frEq] at h
    | cons c s =>
      obtain ⟨c, d⟩ := c
      simp only [frEq, Bool.and_eq_true] at h
      rw [beq_eq h.1.1, avEq_eq h.1.2, frEq_eq h.2]
def exEq : Ex → Ex → Bool
  | .normal, .normal | .ret, .ret => true
  | .exit a, .exit b => Nat.beq a b
  | _, _ => false
theorem exEq_eq : ∀ {a b : Ex}, exEq a b = true → a = b
  | .normal, b, h => by cases b <;> simp [exEq] at h; rfl
  | .ret, b, h => by cases b <;> simp [exEq] at h; rfl
  | .exit n, b, h => by
    cases b <;> simp only [exEq, Bool.false_eq_true] at h
    rw [beq_eq h]

/-- A state that a run may come to. -/
structure St where
  ex : Ex
  fr : Fr
  H : Hp
def St.eqb (a b : St) : Bool := exEq a.ex b.ex && frEq a.fr b.fr && hpEq a.H b.H
theorem St.eqb_eq {a b : St} (h : a.eqb b = true) : a = b := by
  simp only [St.eqb, Bool.and_eq_true] at h
  cases a; cases b
  simp only at h
  rw [exEq_eq h.1.1, frEq_eq h.1.2, hpEq_eq h.2]
def inSt (s : St) : List St → Bool
  | [] => false
  | a :: r => match s.eqb a with
    | true => true
    | false => inSt s r
theorem inSt_mem {s : St} : ∀ {l : List St}, inSt s l = true → s ∈ l
  | [], h => by simp [inSt] at h
  | a :: r, h => by
    simp only [inSt] at h
    split at h
    · rename_i he; rw [St.eqb_eq he]; simp
    · simp [inSt_mem h]
def unSt : List St → List St → List St
  | [], b => b
  | s :: r, b => match inSt s b with
    | true => unSt r b
    | false => unSt r (s :: b)
theorem unSt_mem {s : St} : ∀ {a b : List St}, s ∈ a ∨ s ∈ b → s ∈ unSt a b
  | [], b, h => by simpa [unSt] using h
  | x :: r, b, h => by
    simp only [unSt]
    split
    · rename_i hx
      apply unSt_mem
      rcases h with h | h
      · rcases List.mem_cons.1 h with rfl | h
        · exact .inr (inSt_mem hx)
        · exact .inl h
      · exact .inr h
    · apply unSt_mem
      rcases h with h | h
      · rcases List.mem_cons.1 h with rfl | h
        · exact .inr (by simp)
        · exact .inl h
      · exact .inr (by simp [h])
def bindSt (f : St → Option (List St)) : List St → Option (List St)
  | [] => some []
  | a :: r => match f a with
    | some x => (match r with
      | [] => some x
      | _ :: _ => (match bindSt f r with
        | some y => some (unSt x y)
        | none => none))
    | none => none
theorem bindSt_mem {f : St → Option (List St)} : ∀ {l : List St} {L : List St}, bindSt f l = some L → ∀ a ∈ l, ∃ x, f a = some x ∧ ∀ s ∈ x, s ∈ L
  | [], L, _, a, ha => by simp at ha
  | b :: r, L, h, a, ha => by
    simp only [bindSt] at h
    cases hx : f b with
    | none => rw [hx] at h; cases h
    | some x =>
      rw [hx] at h
      cases r with
      | nil =>
        simp only [Option.some.injEq] at h
        subst h
        simp at ha; subst ha
        exact ⟨x, hx, fun s hs => hs⟩
      | cons c r =>
        simp only at h
        cases hy : bindSt f (c :: r) with
        | none => rw [hy] at h; cases h
        | some y =>
          rw [hy] at h
          simp only [Option.some.injEq] at h
          subst h
          rcases List.mem_cons.1 ha with rfl | ha
          · exact ⟨x, hx, fun s hs => unSt_mem (.inl hs)⟩
          · obtain ⟨x', h1, h2⟩ := bindSt_mem hy a ha
            exact ⟨x', h1, fun s hs => unSt_mem (.inr (h2 s hs))⟩

def bodyE (qf : FuncId → Bool) (f : FuncId) (ir : IF) (args : List AV) (H : Hp) : T :=
  match qf f with
  | true => bodyCQ ir args H
  | false => bodyC ir args H
/-- All states that a closed run may come to. -/
def resT (qf : FuncId → Bool) (tab : FuncId → Option IF) : Nat → T → Option (List St)
  | 0, _ => none
  | n + 1, t => match t with
    | .ret e fr H => some [⟨e, fr, H⟩]
    | .stuck _ => none
    | .br true t _ => resT qf tab n t
    | .br false _ e => resT qf tab n e
    | .any t e => match resT qf tab n t with
      | some x => (match resT qf tab n e with
        | some y => some (unSt x y)
        | none => none)
      | none => none
    | .asrt b k => match b with
      | true => resT qf tab n k
      | false => none
    | .idx xs i k => match i with
      | .ofNat j => (match xs[j]? with
        | some y => resT qf tab n (k y)
        | none => none)
      | _ => none
    | .rng k m f => resT qf tab n (f (k.wrap m))
    | .eqv v v' k => match avEq v v' with
      | true => resT qf tab n k
      | false => none
    | .same es es' k => match entsEq es es' with
      | true => resT qf tab n k
      | false => none
    | .nxt es es' left over k => match entsEq es es' with
      | true => (match left with
        | [] => resT qf tab n over
        | [p] => resT qf tab n (k p [])
        | _ => none)
      | false => none
    | .idxD ms i k => (match ms[i]? with
      | some (v, Hs) => resT qf tab n (k v Hs)
      | none => none)
    | .call f args H k => match tab f with
      | some ir => (match Nat.ble args.length ir.ntmps with
        | true => (match resT qf tab n (bodyE qf f ir args H) with
          | some l => bindSt (fun s => match s.ex, s.fr with
            | .ret, [(_, r)] => resT qf tab n (k r s.H)
            | _, _ => none) l
          | none => none)
        | false => none)
      | none => none
    | .loop live keep mv lc fr H k => match resT qf tab n (roundT live keep mv lc fr H) with
      | some l => bindSt (fun s => match s.ex with
        | .normal => resT qf tab n (.loop live keep mv lc s.fr s.H k)
        | e => resT qf tab n (k e s.fr s.H)) l
      | none => none

theorem acalls_ofE (qf : FuncId → Bool) {P : Program} {G : Gl} {f : FuncId} {fn : Func} {ir : IF} (hf : P.funcs[f]? = some fn) (hname : (fn.name == "runtime.NumGoroutine") = false) (hc : chkF P G fn ir = true) {args : List AV} {H : Hp} {Q : AV → Hp → Prop}
    (hl : args.length ≤ fn.ntmps) (h : sat (mkX P G fn.ntmps) (retP Q) (bodyE qf f ir args H)) : ACalls P G f args H Q := by
  unfold bodyE at h
  split at h
  · exact acalls_ofQ hf hname hc hl h
  · exact acalls_ofC hf hname hc hl h
theorem resT_sound {qf : FuncId → Bool} {P : Program} {G : Gl} {tab : FuncId → Option IF} (hT : TabOK P G tab) : ∀ (n : Nat) {N : Nat} {t : T} {L : List St}, resT qf tab n t = some L → sat (mkX P G N) (fun e fr H => St.mk e fr H ∈ L) t := by
  intro n
  induction n using Nat.strongRecOn with
  | _ n ih =>
    intro N t L h
    cases n with
    | zero => simp [resT] at h
    | succ n =>
      have ih1 : ∀ {N : Nat} {t : T} {L : List St}, resT qf tab n t = some L → sat (mkX P G N) (fun e fr H => St.mk e fr H ∈ L) t := ih n (Nat.lt_succ_self n)
      cases t with
      | ret e fr H => simp only [resT, Option.some.injEq] at h; subst h; show St.mk e fr H ∈ [_]; simp
      | stuck s => simp [resT] at h
      | br b t e =>
        cases b with
        | true => exact ⟨fun _ => ih1 h, fun hb => by cases hb⟩
        | false => exact ⟨fun hb => (by cases hb), fun _ => ih1 h⟩
      | any t e =>
        simp only [resT] at h
        split at h
        · rename_i x hx
          split at h
          · rename_i y hy
            cases h
            exact ⟨sat_mono (fun _ _ _ hs => unSt_mem (.inl hs)) (ih1 hx), sat_mono (fun _ _ _ hs => unSt_mem (.inr hs)) (ih1 hy)⟩
          · cases h
        · cases h
      | asrt b k =>
        simp only [resT] at h
        split at h
        · exact ⟨rfl, ih1 h⟩
        · cases h
      | idx xs i k =>
        cases i with
        | ofNat j =>
          simp only [resT] at h
          split at h
          · rename_i x hx; exact ⟨x, by simp, by simpa using hx, ih1 h⟩
          · cases h
        | negSucc j => simp [resT] at h
      | rng k m f => simp only [resT] at h; exact (ih1 h : sat (mkX P G N) _ (f (k.wrap m)))
      | eqv v v' k =>
        simp only [resT] at h
        split at h
        · rename_i hv; exact ⟨avEq_eq hv, ih1 h⟩
        · cases h
      | same es es' k =>
        simp only [resT] at h
        split at h
        · rename_i hv; exact ⟨entsEq_eq hv, ih1 h⟩
        · cases h
      | nxt es es' left over k =>
        simp only [resT] at h
        split at h
        · rename_i hv
          split at h
          · exact ⟨entsEq_eq hv, fun _ => ih1 h, fun j p hp => (by simp at hp)⟩
          · rename_i p0
            refine ⟨entsEq_eq hv, fun hl => (by cases hl), fun j p hp => ?_⟩
            cases j with
            | zero => simp at hp; subst hp; exact ih1 h
            | succ j => simp at hp
          · cases h
        · cases h
      | idxD ms i k =>
        simp only [resT] at h
        split at h
        · rename_i v Hs hx; exact ⟨v, Hs, hx, ih1 h⟩
        · cases h
      | call f args H k =>
        simp only [resT] at h
        split at h
        · rename_i ir hir
          split at h
          · rename_i hble
            split at h
            · rename_i l hl
              have hb := bindSt_mem h
              obtain ⟨fn, h1, h2, h3, h4⟩ := hT.fn f ir hir
              refine ⟨fun r H' => ∃ x, resT qf tab n (k r H') = some x ∧ ∀ s ∈ x, s ∈ L, acalls_ofE qf h1 h2 h3 (by rw [h4]; exact Nat.le_of_ble_eq_true hble) (sat_mono ?_ (ih1 hl)), fun r H' ⟨x, hx, hm⟩ => sat_mono (fun _ _ _ hs => hm _ hs) (ih1 hx)⟩
              intro e fr H' hq
              obtain ⟨x, hx, hm⟩ := hb _ hq
              unfold retP
              split at hx
              · rename_i hex hfr
                simp only at hex hfr
                subst hex hfr
                exact ⟨x, hx, hm⟩
              · cases hx
            · cases h
          · cases h
        · cases h
      | loop live keep mv lc fr H k =>
        simp only [resT] at h
        split at h
        · rename_i l hl
          refine ⟨fun e fr' H' => ∃ m, m ≤ n ∧ ∃ x, resT qf tab m (k e fr' H') = some x ∧ ∀ s ∈ x, s ∈ L, ?_, fun e fr' H' ⟨m, hm, x, hx, hs⟩ => sat_mono (fun _ _ _ h => hs _ h) (ih m (by omega) hx)⟩
          let σ := { p : Nat × Fr × Hp // p.1 ≤ n ∧ ∃ l L', resT qf tab p.1 (roundT live keep mv lc p.2.1 p.2.2) = some l ∧ bindSt (fun s => match s.ex with
              | .normal => resT qf tab p.1 (.loop live keep mv lc s.fr s.H k)
              | e => resT qf tab p.1 (k e s.fr s.H)) l = some L' ∧ ∀ s ∈ L', s ∈ L }
          exact aloop_of (X := mkX P G N) mkX_ops (σ := σ) (fun y => y.1.2.1) (fun y => y.1.2.2) (fun y => y.1.1) (live := live) (keep := keep) (mv := mv) (c := lc) (fun y => by
            obtain ⟨⟨m, fr1, H1⟩, hm, l1, L1, hl1, hb1, hs1⟩ := y
            simp only at hm hl1 hb1
            have := ih m (by omega) (N := N) hl1
            refine sat_mono ?_ this
            intro e fr' H' hq
            obtain ⟨x, hx, hxs⟩ := bindSt_mem hb1 _ hq
            cases e with
            | normal =>
              cases m with
              | zero => simp [resT] at hx
              | succ m =>
                simp only [resT] at hx
                split at hx
                · rename_i l2 hl2
                  exact ⟨⟨(m, fr', H'), by simp only; omega, l2, x, hl2, hx, fun s h => hs1 s (hxs s h)⟩, rfl, rfl, Nat.lt_succ_self m⟩
                · cases hx
            | exit i => exact ⟨m, hm, x, hx, fun s h => hs1 s (hxs s h)⟩
            | ret => exact ⟨m, hm, x, hx, fun s h => hs1 s (hxs s h)⟩) ⟨(n, fr, H), Nat.le_refl _, l, L, hl, h, fun s h => h⟩
        · cases h

def allTrue0 : List St → Bool
  | [] => true
  | s :: r => match isTrue0 s.ex s.fr s.H with
    | true => allTrue0 r
    | false => false
theorem allTrue0_mem : ∀ {l : List St}, allTrue0 l = true → ∀ s ∈ l, isTrue0 s.ex s.fr s.H = true
  | [], _, s, hs => by simp at hs
  | a :: r, h, s, hs => by
    simp only [allTrue0] at h
    split at h
    · rename_i ha
      rcases List.mem_cons.1 hs with rfl | hs
      · exact ha
      · exact allTrue0_mem h s hs
    · cases h
def resTrue (qf : FuncId → Bool) (tab : FuncId → Option IF) (n : Nat) (ir : IF) : Bool :=
  match resT qf tab n (bodyC ir [] []) with
  | some l => allTrue0 l
  | none => false
/-- A closed function that returns true, whose ways meet again. -/
theorem known_callsR {P : Program} {G : Gl} {f : FuncId} {ir : IF} (h : FunOK P G f ir) {l : List (FuncId × IF)} (hT : TabsOK P G l) (qf : FuncId → Bool) (n : Nat) (hn : resTrue qf (tabL l) n ir = true) : ACalls P G f [] [] fun r H' => r = .t (.bool true) ∧ H' = [] := by
  unfold resTrue at hn
  split at hn
  · rename_i L hL
    exact h.callsC rfl (by rw [bodyR_eq]; exact sat_mono (fun e fr H hm => isTrue0_ret (allTrue0_mem hn _ hm)) (resT_sound (N := ir.ntmps) (tabOK_of hT) n hL))
  · cases hn
end Stk
