/- The framework, part 19: functions and loops. -/
import Derived.Test.YthkbahbbdacgeaaDoorFw18
namespace Stk
open Go
variable {X : Cx} {Q : Ex → Fr → Hp → Prop} {e : Env} {H : Hp} {w : World}

/-! ### Functions -/
theorem argFr_sound : ∀ {args : List AV} {n : Nat} {acc : Fr} {k : Fr → T}, sat X Q (argFrK n acc args k) → ∃ fr, sat X Q (k fr) ∧ (∀ t, t < n → fr.at t = acc.at t) ∧ (∀ t, n + args.length ≤ t → fr.at t = acc.at t) ∧ ∀ (i : Nat) v, args[i]? = some v → fr.at (n + i) = v
  | [], n, acc, k, h => ⟨acc, h, fun _ _ => rfl, fun _ _ => rfl, fun i v hv => by simp at hv⟩
  | x :: xs, n, acc, k, h => by
    simp only [argFrK, litK_eq] at h
    obtain ⟨fr, h1, h2, h3, h4⟩ := argFr_sound h
    refine ⟨fr, h1, fun t ht => ?_, fun t ht => ?_, fun i v hv => ?_⟩
    · rw [h2 t (by omega), Fr.at_cons, if_neg (by omega)]
    · simp only [List.length_cons] at ht
      rw [h3 t (by omega), Fr.at_cons, if_neg (by omega)]
    · cases i with
      | zero => simp at hv; subst hv; rw [Nat.add_zero, h2 n (by omega), Fr.at_cons, if_pos rfl]
      | succ i => rw [show n + (i + 1) = n + 1 + i by omega]; exact h4 i v (by simpa using hv)

def chkRes (P : Program) : List IRes → List ResultVar → Bool
  | [], [] => true
  | .tmp t :: r, .tmp t' :: r' => Nat.beq t t' && chkRes P r r'
  | .cell a agg n :: r, .cell a' ty :: r' => Nat.beq a a' && tyOK P ty agg n && chkRes P r r'
  | _, _ => false

def resF (tmps : Array Value) : ResultVar → Sem Value
  | .tmp t => pure (tmps.getD t undef)
  | .cell a t => do loadVar t (← asAddr (tmps.getD a undef))

theorem res_sound {fr : Fr} {a : Act} (hr : Rel X.G e H w) (hf : FrR X.N e fr a) : ∀ {irs : List IRes} {rs : List ResultVar} {k : List AV → T}, chkRes X.P irs rs = true → sat X Q (resK H fr irs k) →
    ∃ vs cvs, sat X Q (k vs) ∧ AV.vals e vs cvs ∧ (rs.mapM (resF a.tmps)).run X.P w = .ok cvs w
  | [], [], k, _, h => ⟨[], [], h, by simp [AV.vals], rfl⟩
  | [], _ :: _, k, hc, h => by simp [chkRes] at hc
  | .tmp t :: r, [], k, hc, h => by simp [chkRes] at hc
  | .tmp t :: r, .cell _ _ :: rs, k, hc, h => by simp [chkRes] at hc
  | .cell _ _ _ :: r, [], k, hc, h => by simp [chkRes] at hc
  | .cell _ _ _ :: r, .tmp _ :: rs, k, hc, h => by simp [chkRes] at hc
  | .tmp t :: r, .tmp t' :: rs, k, hc, h => by
    simp only [chkRes, Bool.and_eq_true] at hc
    have := beq_eq hc.1
    subst this
    simp only [resK, lk_eq] at h
    obtain ⟨vs, cvs, h1, h2, h3⟩ := res_sound hr hf hc.2 h
    refine ⟨_, a.tmps.getD t undef :: cvs, h1, by simp only [AV.vals]; exact ⟨_, _, rfl, hf.slot t, h2⟩, ?_⟩
    rw [List.mapM_cons]
    simp only [resF, pure_bind, Sem.run_bind, h3, Result.andThen, Sem.run_pure]
  | .cell x agg n :: r, .cell x' ty :: rs, k, hc, h => by
    simp only [chkRes, Bool.and_eq_true] at hc
    have := beq_eq hc.1.1
    subst this
    simp only [resK, lk_eq] at h
    obtain ⟨v, cv, h, hv, ad, hx, hrun⟩ := load_sound hr (hf.slot x) h
    obtain ⟨vs, cvs, h1, h2, h3⟩ := res_sound hr hf hc.2 h
    refine ⟨_, cv :: cvs, h1, by simp only [AV.vals]; exact ⟨_, _, rfl, hv, h2⟩, ?_⟩
    rw [List.mapM_cons]
    have := hrun X.P ty hc.1.2
    simp only [resF, hx, asAddr, pure_bind, Sem.run_bind, this, h3, Result.andThen, Sem.run_pure]

def mkX (P : Program) (G : Gl) (N : Nat) : Cx := ⟨P, G, N, fun dr ops is => chkReg P G N (chkD P G) dr ops is⟩
theorem mkX_ops {P : Program} {G : Gl} {N : Nat} : OpsOK (mkX P G N) := ⟨fun _ _ h => h, fun _ _ h => h⟩

def retP (Q : AV → Hp → Prop) : Ex → Fr → Hp → Prop
  | .ret, [(_, v)], H => Q v H
  | _, _, _ => False

def chkF (P : Program) (G : Gl) (fn : Func) (ir : IF) : Bool :=
  (match fn.body with
  | some c => chkC (mkX P G fn.ntmps).ops G ir.body c
  | none => false) && chkRes P ir.results fn.results.toList

def oneOf : List Value → Value
  | [c] => c
  | cs => .tuple cs.toArray
theorem results_run {P : Program} {fn : Func} {tmps : Array Value} {cvs : List Value} {w : World} (h : (fn.results.toList.mapM (resF tmps)).run P w = .ok cvs w) :
    (results fn tmps).run P w = .ok (oneOf cvs) w := by
  have h1 : (fn.results.mapM (resF tmps)).run P w = .ok cvs.toArray w := by
    rw [Array.mapM_eq_mapM_toList]
    simp only [Sem.run_map, h]
    rfl
  have h2 : results fn tmps = (fn.results.mapM (resF tmps) >>= fun vs => pure (if h : vs.size = 1 then vs[0] else .tuple vs)) := by
    unfold results
    have : (resF tmps) = (fun
      | .tmp t => pure (tmps.getD t undef)
      | .cell a t => do loadVar t (← asAddr (tmps.getD a undef))) := by funext r; cases r <;> rfl
    rw [this]
    rfl
  rw [h2]
  simp only [Sem.run_bind, h1, Result.andThen, Sem.run_pure]
  congr 1
  match cvs with
  | [] => simp [oneOf]
  | [c] => simp [oneOf]
  | c :: d :: r => simp [oneOf]

/-- A function's body, with what is done with its result. -/
def bodyG (f : IF) (args : List AV) (H : Hp) (fin : AV → Hp → T) : T :=
  argFrK 0 [] args fun fr => codeT f.body fr H fun e fr' H' => match e with
    | .exit _ => .stuck "exit"
    | _ => resK H' fr' f.results fun vs => match vs with
      | [v] => fin v H'
      | vs => fin (.tup vs) H'

theorem acalls_ofG {P : Program} {G : Gl} {f : FuncId} {fn : Func} {ir : IF} (hf : P.funcs[f]? = some fn) (hname : (fn.name == "runtime.NumGoroutine") = false) (hc : chkF P G fn ir = true) {args : List AV} {H : Hp} {Q : Ex → Fr → Hp → Prop} {fin : AV → Hp → T}
    (hl : args.length ≤ fn.ntmps) (h : sat (mkX P G fn.ntmps) Q (bodyG ir args H fin)) : ACalls P G f args H (fun r H' => sat (mkX P G fn.ntmps) Q (fin r H')) := by
  unfold chkF at hc
  simp only [Bool.and_eq_true] at hc
  obtain ⟨hc1, hc2⟩ := hc
  split at hc1
  · rename_i code hb
    refine ⟨⟨fn, hf, hname, by rw [hb]; rfl⟩, ?_⟩
    intro e w cargs hr hv
    refine calls_of_wp hf hb ?_
    have hlen : cargs.size = args.length := by
      have : ∀ (xs : List AV) (cs : List Value), AV.vals e xs cs → cs.length = xs.length := by
        intro xs
        induction xs with
        | nil => intro cs h; simp only [AV.vals] at h; subst h; rfl
        | cons x xs ih => intro cs h; simp only [AV.vals] at h; obtain ⟨c, b, rfl, _, h2⟩ := h; simp [ih b h2]
      simpa using this _ _ hv
    unfold bodyG at h
    obtain ⟨fr, h, h1, h2, h3⟩ := argFr_sound h
    have hfr : FrR (mkX P G fn.ntmps).N e fr { tmps := cargs ++ Array.replicate (fn.ntmps - cargs.size) undef, defers := [] } := by
      refine ⟨by simp [mkX]; omega, rfl, fun t => ?_⟩
      by_cases ht : t < args.length
      · have := h3 t _ (List.getElem?_eq_getElem ht)
        rw [Nat.zero_add] at this
        rw [this]
        obtain ⟨c, h4, h5⟩ := vals_get hv (List.getElem?_eq_getElem ht)
        have : (cargs ++ Array.replicate (fn.ntmps - cargs.size) undef).getD t undef = c := by
          rw [Array.getD_eq_getD_getElem?, Array.getElem?_append_left (by omega)]
          have : cargs[t]? = some c := by simpa using h4
          rw [this]; rfl
        rw [this]; exact h5
      · rw [h2 t (by omega)]; simp [Fr.at, AV.val]
    refine wp_mono (code_sound (X := mkX P G fn.ntmps) mkX_ops ir.body hc1 hr hfr h) ?_
    rintro ex a' w' ⟨ex', fr', e', H', hex, hk, hf', hst⟩
    have done (hk : sat (mkX P G fn.ntmps) Q (resK H' fr' ir.results fun vs => match vs with
        | [v] => fin v H'
        | vs => fin (.tup vs) H')) : a'.defers = [] ∧ ∃ v, (results fn a'.tmps).run P w' = .ok v w' ∧ ∃ r c e2 H2, Ending.returned v = .returned c ∧ sat (mkX P G fn.ntmps) Q (fin r H2) ∧ AV.val e2 r c ∧ Step G e H w e2 H2 w' := by
      obtain ⟨vs, cvs, hk, hvs, hrun⟩ := res_sound hst.rel hf' hc2 hk
      refine ⟨hf'.defers, _, results_run hrun, ?_⟩
      match vs, hvs with
      | [], hvs =>
        simp only [AV.vals] at hvs
        subst hvs
        exact ⟨.tup [], _, e', H', rfl, hk, by simp only [AV.val]; exact ⟨#[], rfl, by simp [AV.vals]⟩, hst⟩
      | [v], hvs =>
        simp only [AV.vals] at hvs
        obtain ⟨c, b, rfl, h4, rfl⟩ := hvs
        exact ⟨v, c, e', H', rfl, hk, h4, hst⟩
      | u :: v :: r, hvs =>
        have hvs0 := hvs
        simp only [AV.vals] at hvs
        obtain ⟨c, b, rfl, h4, d, b', rfl, h5⟩ := hvs
        exact ⟨.tup (u :: v :: r), .tuple (c :: d :: b').toArray, e', H', rfl, hk, by simp only [AV.val]; exact ⟨_, rfl, by simpa using hvs0⟩, hst⟩
    cases ex <;> cases ex' <;> simp only [ExR] at hex
    · exact done hk
    · exact hk.elim
    · exact done hk
  · cases hc1
theorem acalls_of {P : Program} {G : Gl} {f : FuncId} {fn : Func} {ir : IF} (hf : P.funcs[f]? = some fn) (hname : (fn.name == "runtime.NumGoroutine") = false) (hc : chkF P G fn ir = true) {args : List AV} {H : Hp} {Q : AV → Hp → Prop}
    (hl : args.length ≤ fn.ntmps) (h : sat (mkX P G fn.ntmps) (retP Q) (bodyT ir args H)) : ACalls P G f args H Q :=
  acalls_ofG (fin := fun v H' => .ret .ret [(0, v)] H') (Q := retP Q) hf hname hc hl h
end Stk
