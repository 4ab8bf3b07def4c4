/- The framework, part 24: closed runs. -/
import Derived.Test.YthkbahbbdacgeaaDoorFw23
namespace Stk
open Go

theorem sat_mono {X : Cx} {Q Q' : Ex → Fr → Hp → Prop} (hq : ∀ e fr H, Q e fr H → Q' e fr H) : ∀ {t : T}, sat X Q t → sat X Q' t := by
  intro t
  induction t with
  | ret e fr H => exact fun h => hq _ _ _ h
  | stuck s => exact fun h => h
  | br b t e iht ihe => exact fun h => ⟨fun hb => iht (h.1 hb), fun hb => ihe (h.2 hb)⟩
  | any t e iht ihe => exact fun h => ⟨iht h.1, ihe h.2⟩
  | asrt b k ih => exact fun h => ⟨h.1, ih h.2⟩
  | idx xs i k ih => exact fun ⟨x, h1, h2, h3⟩ => ⟨x, h1, h2, ih x h3⟩
  | rng k n f ih => exact fun h => ih _ h
  | eqv v v' k ih => exact fun h => ⟨h.1, ih h.2⟩
  | call f args H k ih => exact fun ⟨Q0, h1, h2⟩ => ⟨Q0, h1, fun r H' hr => ih r H' (h2 r H' hr)⟩
  | loop live keep mv c fr H k ih => exact fun ⟨Q0, h1, h2⟩ => ⟨Q0, h1, fun e fr' H' hr => ih e fr' H' (h2 e fr' H' hr)⟩

def natsEq : List Nat → List Nat → Bool
  | [], [] => true
  | a :: r, b :: s => Nat.beq a b && natsEq r s
  | _, _ => false
theorem natsEq_eq : ∀ {a b : List Nat}, natsEq a b = true → a = b
  | [], b, h => by cases b <;> simp_all [natsEq]
  | x :: r, b, h => by
    cases b <;> simp only [natsEq, Bool.and_eq_true, Bool.false_eq_true] at h
    rw [beq_eq h.1, natsEq_eq h.2]
def onEq : Option Nat → Option Nat → Bool
  | none, none => true
  | some a, some b => Nat.beq a b
  | _, _ => false
theorem onEq_eq {a b : Option Nat} (h : onEq a b = true) : a = b := by
  cases a <;> cases b <;> simp only [onEq, Bool.false_eq_true] at h
  · rfl
  · rw [beq_eq h]
mutual
def avEq : AV → AV → Bool
  | .t x, .t y => x.same y
  | .undef, .undef => true
  | .mp a, .mp b => Nat.beq a b
  | .ptr b i o p ix, .ptr b' i' o' p' ix' => Nat.beq b b' && Nat.beq i i' && Nat.beq o o' && natsEq p p' && onEq ix ix'
  | .sl b o p off len cap, .sl b' o' p' off' len' cap' => Nat.beq b b' && Nat.beq o o' && natsEq p p' && Nat.beq off off' && Nat.beq len len' && onEq cap cap'
  | .bz e xs, .bz e' ys => Nat.beq e e' && Tr.sames xs ys
  | .vp x, .vp y => x.same y
  | .agg xs, .agg ys => avsEq xs ys
  | .tup xs, .tup ys => avsEq xs ys
  | .fn f xs ys, .fn f' xs' ys' => Nat.beq f f' && avsEq xs xs' && avsEq ys ys'
  | _, _ => false
def avsEq : List AV → List AV → Bool
  | [], [] => true
  | x :: xs, y :: ys => avEq x y && avsEq xs ys
  | _, _ => false
end
mutual
theorem avEq_eq : ∀ {a b : AV}, avEq a b = true → a = b
  | .t x, b, h => by cases b <;> simp only [avEq, Bool.false_eq_true] at h; rw [Tr.same_eq h]
  | .undef, b, h => by cases b <;> simp only [avEq, Bool.false_eq_true] at h; rfl
  | .mp a, b, h => by cases b <;> simp only [avEq, Bool.false_eq_true] at h; rw [beq_eq h]
  | .ptr _ _ _ _ _, b, h => by
    cases b <;> simp only [avEq, Bool.false_eq_true, Bool.and_eq_true] at h
    rw [beq_eq h.1.1.1.1, beq_eq h.1.1.1.2, beq_eq h.1.1.2, natsEq_eq h.1.2, onEq_eq h.2]
  | .sl _ _ _ _ _ _, b, h => by
    cases b <;> simp only [avEq, Bool.false_eq_true, Bool.and_eq_true] at h
    rw [beq_eq h.1.1.1.1.1, beq_eq h.1.1.1.1.2, natsEq_eq h.1.1.1.2, beq_eq h.1.1.2, beq_eq h.1.2, onEq_eq h.2]
  | .bz _ _, b, h => by
    cases b <;> simp only [avEq, Bool.false_eq_true, Bool.and_eq_true] at h
    rw [beq_eq h.1, Tr.sames_eq h.2]
  | .vp x, b, h => by cases b <;> simp only [avEq, Bool.false_eq_true] at h; rw [Tr.same_eq h]
  | .agg xs, b, h => by cases b <;> simp only [avEq, Bool.false_eq_true] at h; rw [avsEq_eq h]
  | .tup xs, b, h => by cases b <;> simp only [avEq, Bool.false_eq_true] at h; rw [avsEq_eq h]
  | .fn _ _ _, b, h => by
    cases b <;> simp only [avEq, Bool.false_eq_true, Bool.and_eq_true] at h
    rw [beq_eq h.1.1, avsEq_eq h.1.2, avsEq_eq h.2]
theorem avsEq_eq : ∀ {a b : List AV}, avsEq a b = true → a = b
  | [], b, h => by cases b <;> simp_all [avsEq]
  | x :: xs, b, h => by
    cases b <;> simp only [avsEq, Bool.false_eq_true, Bool.and_eq_true] at h
    rw [avEq_eq h.1, avsEq_eq h.2]
end

def bodyS (c : Bool) (ir : IF) (args : List AV) (H : Hp) : T :=
  match c with
  | true => bodyC ir args H
  | false => bodyT ir args H
theorem acalls_ofS {P : Program} {G : Gl} {f : FuncId} {fn : Func} {ir : IF} (c : Bool) (hf : P.funcs[f]? = some fn) (hname : (fn.name == "runtime.NumGoroutine") = false) (hc : chkF P G fn ir = true) {args : List AV} {H : Hp} {Q : AV → Hp → Prop}
    (hl : args.length ≤ fn.ntmps) (h : sat (mkX P G fn.ntmps) (retP Q) (bodyS c ir args H)) : ACalls P G f args H Q := by
  cases c with
  | true => exact acalls_ofC hf hname hc hl h
  | false => exact acalls_of hf hname hc hl h

/-- Each run of a closed tree comes to what q wants. -/
def okT (c : Bool) (tab : FuncId → Option IF) : Nat → T → (Ex → Fr → Hp → Bool) → Bool
  | 0, _, _ => false
  | n + 1, t, q => match t with
    | .ret e fr H => q e fr H
    | .stuck _ => false
    | .br true t _ => okT c tab n t q
    | .br false _ e => okT c tab n e q
    | .any t e => okT c tab n t q && okT c tab n e q
    | .asrt b k => b && okT c tab n k q
    | .idx xs i k => match i with
      | .ofNat j => (match xs[j]? with
        | some x => okT c tab n (k x) q
        | none => false)
      | _ => false
    | .rng k m f => okT c tab n (f (k.wrap m)) q
    | .eqv v v' k => avEq v v' && okT c tab n k q
    | .call f args H k => match tab f with
      | some ir => Nat.ble args.length ir.ntmps && okT c tab n (bodyS c ir args H) fun e fr H' => match e, fr with
        | .ret, [(_, r)] => okT c tab n (k r H') q
        | _, _ => false
      | none => false
    | .loop live keep mv lc fr H k => okT c tab n (roundT live keep mv lc fr H) fun e fr' H' => match e with
      | .normal => okT c tab n (.loop live keep mv lc fr' H' k) q
      | e => okT c tab n (k e fr' H') q

structure TabOK (P : Program) (G : Gl) (tab : FuncId → Option IF) : Prop where
  fn : ∀ f ir, tab f = some ir → ∃ fn, P.funcs[f]? = some fn ∧ (fn.name == "runtime.NumGoroutine") = false ∧ chkF P G fn ir = true ∧ fn.ntmps = ir.ntmps

theorem okT_sound {c : Bool} {P : Program} {G : Gl} {tab : FuncId → Option IF} (hT : TabOK P G tab) : ∀ (n : Nat) {N : Nat} {t : T} {q : Ex → Fr → Hp → Bool}, okT c tab n t q = true → sat (mkX P G N) (fun e fr H => q e fr H = true) t := by
  intro n
  induction n using Nat.strongRecOn with
  | _ n ih =>
    intro N t q h
    cases n with
    | zero => simp [okT] at h
    | succ n =>
      have ih1 : ∀ {N : Nat} {t : T} {q : Ex → Fr → Hp → Bool}, okT c tab n t q = true → sat (mkX P G N) (fun e fr H => q e fr H = true) t := ih n (Nat.lt_succ_self n)
      cases t with
      | ret e fr H => exact h
      | stuck s => simp [okT] at h
      | br b t e =>
        cases b with
        | true => exact ⟨fun _ => ih1 h, fun hb => by cases hb⟩
        | false => exact ⟨fun hb => (by cases hb), fun _ => ih1 h⟩
      | any t e => simp only [okT, Bool.and_eq_true] at h; exact ⟨ih1 h.1, ih1 h.2⟩
      | asrt b k => simp only [okT, Bool.and_eq_true] at h; exact ⟨h.1, ih1 h.2⟩
      | idx xs i k =>
        cases i with
        | ofNat j =>
          simp only [okT] at h
          split at h
          · rename_i x hx; exact ⟨x, by simp, by simpa using hx, ih1 h⟩
          · cases h
        | negSucc j => simp [okT] at h
      | rng k m f => simp only [okT] at h; exact (ih1 h : sat (mkX P G N) (fun e fr H => q e fr H = true) (f (k.wrap m)))
      | eqv v v' k => simp only [okT, Bool.and_eq_true] at h; exact ⟨avEq_eq h.1, ih1 h.2⟩
      | call f args H k =>
        simp only [okT] at h
        split at h
        · rename_i ir hir
          simp only [Bool.and_eq_true] at h
          obtain ⟨fn, h1, h2, h3, h4⟩ := hT.fn f ir hir
          refine ⟨fun r H' => okT c tab n (k r H') q = true, acalls_ofS c h1 h2 h3 (by rw [h4]; exact Nat.le_of_ble_eq_true h.1) (sat_mono ?_ (ih1 h.2)), fun r H' hr => ih1 hr⟩
          intro e fr H' hq
          unfold retP
          split at hq
          · exact hq
          · cases hq
        · cases h
      | loop live keep mv lc fr H k =>
        simp only [okT] at h
        refine ⟨fun e fr' H' => okT c tab n (k e fr' H') q = true ∨ ∃ m, m ≤ n ∧ okT c tab m (k e fr' H') q = true, ?_, fun e fr' H' hr => ?_⟩
        · let σ := { p : Nat × Fr × Hp // p.1 ≤ n ∧ okT c tab p.1 (roundT live keep mv lc p.2.1 p.2.2) (fun e fr' H' => match e with
            | .normal => okT c tab p.1 (.loop live keep mv lc fr' H' k) q
            | e => okT c tab p.1 (k e fr' H') q) = true }
          exact aloop_of (X := mkX P G N) mkX_ops (σ := σ) (fun y => y.1.2.1) (fun y => y.1.2.2) (fun y => y.1.1) (live := live) (keep := keep) (mv := mv) (c := lc) (fun y => by
            obtain ⟨⟨m, fr1, H1⟩, hm, hy⟩ := y
            have := ih m (by omega) (N := N) hy
            refine sat_mono ?_ this
            intro e fr' H' hq
            cases e with
            | normal =>
              cases m with
              | zero => simp [okT] at hq
              | succ m =>
                simp only [okT] at hq
                exact ⟨⟨(m, fr', H'), by simp only at hm; omega, hq⟩, rfl, rfl, Nat.lt_succ_self m⟩
            | exit i => exact .inr ⟨m, hm, hq⟩
            | ret => exact .inr ⟨m, hm, hq⟩) ⟨(n, fr, H), Nat.le_refl _, h⟩
        · rcases hr with hr | ⟨m, hm, hr⟩
          · exact ih1 hr
          · exact ih m (by omega) hr

/-! ### Functions of a program, by number and compact code -/
structure FunOK (P : Program) (G : Gl) (f : FuncId) (ir : IF) : Prop where
  ex : ∃ fn, P.funcs[f]? = some fn ∧ (fn.name == "runtime.NumGoroutine") = false ∧ chkF P G fn ir = true ∧ fn.ntmps = ir.ntmps
theorem FunOK.mk' {P : Program} {G : Gl} {f : FuncId} {ir : IF} {fn : Func} (h1 : P.funcs[f]? = some fn) (h2 : (fn.name == "runtime.NumGoroutine") = false) (h3 : chkF P G fn ir = true) (h4 : fn.ntmps = ir.ntmps) : FunOK P G f ir := ⟨fn, h1, h2, h3, h4⟩
theorem FunOK.calls {P : Program} {G : Gl} {f : FuncId} {ir : IF} (h : FunOK P G f ir) {args : List AV} {H : Hp} {Q : AV → Hp → Prop} (hl : Nat.ble args.length ir.ntmps = true) (hs : sat (mkX P G ir.ntmps) (retP Q) (bodyT ir args H)) : ACalls P G f args H Q := by
  obtain ⟨fn, h1, h2, h3, h4⟩ := h.ex
  exact acalls_of h1 h2 h3 (by rw [h4]; exact Nat.le_of_ble_eq_true hl) (by rw [h4]; exact hs)
theorem FunOK.callsC {P : Program} {G : Gl} {f : FuncId} {ir : IF} (h : FunOK P G f ir) {args : List AV} {H : Hp} {Q : AV → Hp → Prop} (hl : Nat.ble args.length ir.ntmps = true) (hs : sat (mkX P G ir.ntmps) (retP Q) (bodyR ir args H)) : ACalls P G f args H Q := by
  rw [bodyR_eq] at hs
  obtain ⟨fn, h1, h2, h3, h4⟩ := h.ex
  exact acalls_ofC h1 h2 h3 (by rw [h4]; exact Nat.le_of_ble_eq_true hl) (by rw [h4]; exact hs)
theorem FunOK.callsQ {P : Program} {G : Gl} {f : FuncId} {ir : IF} (h : FunOK P G f ir) {args : List AV} {H : Hp} {Q : AV → Hp → Prop} (hl : Nat.ble args.length ir.ntmps = true) (hs : sat (mkX P G ir.ntmps) (retP Q) (bodyQ ir args H)) : ACalls P G f args H Q := by
  rw [bodyQ_eq] at hs
  obtain ⟨fn, h1, h2, h3, h4⟩ := h.ex
  exact acalls_ofQ h1 h2 h3 (by rw [h4]; exact Nat.le_of_ble_eq_true hl) (by rw [h4]; exact hs)
theorem FunOK.callsD {P : Program} {G : Gl} {f : FuncId} {ir : IF} (h : FunOK P G f ir) {args : List AV} {H : Hp} {Q : AV → Hp → Prop} (hl : Nat.ble args.length ir.ntmps = true) (hs : sat (mkX P G ir.ntmps) (retP Q) (bodyD ir args H)) : ACalls P G f args H Q := by
  rw [bodyD_eq] at hs
  obtain ⟨fn, h1, h2, h3, h4⟩ := h.ex
  exact acalls_ofD h1 h2 h3 (by rw [h4]; exact Nat.le_of_ble_eq_true hl) (by rw [h4]; exact hs)
theorem ACalls.mono {P : Program} {G : Gl} {f : FuncId} {args : List AV} {H : Hp} {Q Q' : AV → Hp → Prop} (h : ACalls P G f args H Q) (hq : ∀ r H', Q r H' → Q' r H') : ACalls P G f args H Q' :=
  ⟨h.1, fun e w cargs hr hv => Calls.mono (h.2 e w cargs hr hv) (fun _ _ ⟨r, c, e', H', h1, h2, h3, h4⟩ => ⟨r, c, e', H', h1, hq _ _ h2, h3, h4⟩)⟩

def tabL : List (FuncId × IF) → FuncId → Option IF
  | [], _ => none
  | (g, ir) :: r, f => match Nat.beq f g with
    | true => some ir
    | false => tabL r f
def TabsOK (P : Program) (G : Gl) : List (FuncId × IF) → Prop
  | [] => True
  | (g, ir) :: r => FunOK P G g ir ∧ TabsOK P G r
theorem tabOK_of {P : Program} {G : Gl} : ∀ {l : List (FuncId × IF)}, TabsOK P G l → TabOK P G (tabL l)
  | [], _ => ⟨fun f ir h => by simp [tabL] at h⟩
  | (g, ir0) :: r, h => ⟨fun f ir hf => by
    simp only [tabL] at hf
    split at hf
    · rename_i hb
      cases hf
      obtain ⟨fn, k⟩ := h.1.ex
      exact ⟨fn, by rw [beq_eq hb]; exact k⟩
    · exact (tabOK_of h.2).fn f ir hf⟩
def isTrue : Ex → Fr → Hp → Bool
  | .ret, [(_, .t (.bool b))], _ => b
  | _, _, _ => false
theorem isTrue_ret {e : Ex} {fr : Fr} {H : Hp} (h : isTrue e fr H = true) : retP (fun r _ => r = .t (.bool true)) e fr H := by
  unfold isTrue at h
  split at h
  · rename_i b; subst h; exact rfl
  · cases h
/-- A closed function that returns true. -/
theorem known_calls {P : Program} {G : Gl} {f : FuncId} {ir : IF} (h : FunOK P G f ir) {l : List (FuncId × IF)} (hT : TabsOK P G l) (c : Bool) (n : Nat) (hn : okT c (tabL l) n (bodyS c ir [] []) isTrue = true) : ACalls P G f [] [] fun r _ => r = .t (.bool true) :=
  by
    have := sat_mono (fun _ _ _ h => isTrue_ret h) (okT_sound (N := ir.ntmps) (tabOK_of hT) n hn)
    cases c with
    | true => exact h.callsC rfl (by rw [bodyR_eq]; exact this)
    | false => exact h.calls rfl this
def isTrue0 : Ex → Fr → Hp → Bool
  | .ret, [(_, .t (.bool b))], [] => b
  | _, _, _ => false
theorem isTrue0_ret {e : Ex} {fr : Fr} {H : Hp} (h : isTrue0 e fr H = true) : retP (fun r H' => r = .t (.bool true) ∧ H' = []) e fr H := by
  unfold isTrue0 at h
  split at h
  · rename_i b; subst h; exact ⟨rfl, rfl⟩
  · cases h
theorem known_calls0 {P : Program} {G : Gl} {f : FuncId} {ir : IF} (h : FunOK P G f ir) {l : List (FuncId × IF)} (hT : TabsOK P G l) (n : Nat) (hn : okT true (tabL l) n (bodyC ir [] []) isTrue0 = true) : ACalls P G f [] [] fun r H' => r = .t (.bool true) ∧ H' = [] :=
  h.callsC rfl (by rw [bodyR_eq]; exact sat_mono (fun _ _ _ h => isTrue0_ret h) (okT_sound (N := ir.ntmps) (tabOK_of hT) n hn))
end Stk
