/- The framework, part 16: regions and code. -/
import Derived.Test.YthkbahbbdacgeaaDoorFw15
namespace Stk
open Go
variable {X : Cx} {Q : Ex → Fr → Hp → Prop} {e : Env} {H : Hp} {w : World}

theorem FrR.none {fr : Fr} {a : Act} {e' : Env} (h : FrR X.N e fr a) (ht : Env.To id e e') (c : Value) : FrR X.N e' fr (a.put .none c) := h.to ht

theorem Fr.at_cons (d : Nat) (v : AV) (fr : Fr) (t : Nat) : Fr.at ((d, v) :: fr) t = if d = t then v else fr.at t := by
  simp only [Fr.at]
  by_cases h : d = t
  · subst h; rw [if_pos rfl, Nat.beq_refl]
  · rw [if_neg h]
    have : Nat.beq d t = false := by
      cases hb : Nat.beq d t with
      | true => exact absurd (beq_eq hb) h
      | false => rfl
    rw [this]

theorem FrR.put {fr : Fr} {a : Act} {e' : Env} (h : FrR X.N e fr a) (ht : Env.To id e e') {dst : Option Nat} (hd : ∀ d, dst = some d → d < X.N) {v : AV} {c : Value} (hv : AV.val e' v c) : FrR X.N e' (put dst v fr) (a.put dst c) := by
  cases dst with
  | none => exact h.to ht
  | some d =>
    have hd := hd d rfl
    refine ⟨by simp [Act.put, h.size], h.defers, fun t => ?_⟩
    simp only [Stk.put, Fr.at_cons, Act.put]
    by_cases hdt : d = t
    · subst hdt
      rw [if_pos rfl]
      have : (a.tmps.setIfInBounds d c).getD d undef = c := by
        simp [Array.getD_eq_getD_getElem?, h.size, hd]
      rw [this]; exact hv
    · rw [if_neg hdt]
      have : (a.tmps.setIfInBounds d c).getD t undef = a.tmps.getD t undef := by
        simp [Array.getD_eq_getD_getElem?, Array.getElem?_setIfInBounds_ne hdt]
      rw [this]; exact AV.val_to ht (h.slot t)

/-- A slot is known better. -/
theorem FrR.know {fr : Fr} {a : Act} (h : FrR X.N e fr a) {g : Nat} {v : AV} (hv : AV.val e v (a.tmps.getD g undef)) : FrR X.N e ((g, v) :: fr) a :=
  ⟨h.size, h.defers, fun t => by
    rw [Fr.at_cons]
    by_cases hg : g = t
    · subst hg; rw [if_pos rfl]; exact hv
    · rw [if_neg hg]; exact h.slot t⟩

def optLt (N : Nat) : Option Nat → Bool
  | none => true
  | some d => Nat.blt d N
theorem optLt_eq {N : Nat} {d : Option Nat} (h : optLt N d = true) : ∀ x, d = some x → x < N := by
  intro x hx; subst hx; exact Nat.le_of_ble_eq_true h
def optEq : Option Nat → Option Nat → Bool
  | none, none => true
  | some a, some b => Nat.beq a b
  | _, _ => false
theorem optEq_eq {a b : Option Nat} (h : optEq a b = true) : a = b := by
  unfold optEq at h
  split at h
  · rfl
  · rw [beq_eq h]
  · cases h
def beqB : Bool → Bool → Bool
  | true, true => true
  | false, false => true
  | _, _ => false
theorem beqB_eq {a b : Bool} (h : beqB a b = true) : a = b := by cases a <;> cases b <;> first | rfl | cases h

def chkGuard (ops : Array Oper) : Option (Nat × Bool) → Option (Nat × Bool) → Bool
  | none, none => true
  | some (j, want), some (g, want') => beqB want want' && (match ops[j]? with
    | some oj => optEq oj.dst (some g)
    | none => false)
  | _, _ => false
def chkIop (P : Program) (G : Gl) (N : Nat) (ops : Array Oper) (o : Oper) (io : IOp) : Bool :=
  optEq o.dst io.dst && optLt N o.dst && chkGuard ops o.guard io.guard && chkI P G o.op io.op
def chkOpsL (P : Program) (G : Gl) (N : Nat) (ops : Array Oper) : List Oper → List IOp → Bool
  | [], [] => true
  | o :: os, i :: is => chkIop P G N ops o i && chkOpsL P G N ops os is
  | _, _ => false

theorem val_bool' {b : Bool} {c : Value} (h : AV.val e (.t (.bool b)) c) : c = .bool b := by
  simp only [AV.val, Tr.isAgg, Tr.rel] at h
  simpa using h
theorem mk_bool' (e : Env) (b : Bool) : AV.val e (.t (.bool b)) (.bool b) := by
  simp [AV.val, Tr.isAgg, Tr.rel]

theorem yielded_of {ops : Array Oper} {a : Act} {j g : Nat} {oj : Oper} {b : Bool} (hj : ops[j]? = some oj) (hd : oj.dst = some g) (hv : a.tmps.getD g undef = .bool b) : yielded ops a.tmps j = some b := by
  unfold yielded
  rw [hj]
  simp only [Option.bind_some, hd]
  have : a.tmps[g]? = some (.bool b) := by
    rw [Array.getD_eq_getD_getElem?] at hv
    cases hg : a.tmps[g]? with
    | none => rw [hg] at hv; simp [undef] at hv
    | some x => rw [hg] at hv; simp at hv; rw [hv]
  rw [this]

theorem val_none {c : Value} (h : AV.val e (.tup []) c) : c = undef := by
  simp only [AV.val] at h
  obtain ⟨vs, rfl, h⟩ := h
  simp only [AV.vals] at h
  have : vs = #[] := by simpa using h
  rw [this]; rfl
theorem mk_none (e : Env) : AV.val e (.tup []) undef := by
  simp only [AV.val]; exact ⟨#[], rfl, by simp [AV.vals]⟩
theorem yielded_none {ops : Array Oper} {a : Act} {j g : Nat} {oj : Oper} (hj : ops[j]? = some oj) (hd : oj.dst = some g) (hv : a.tmps.getD g undef = undef) : yielded ops a.tmps j = none := by
  unfold yielded
  rw [hj]
  simp only [Option.bind_some, hd]
  cases hg : a.tmps[g]? with
  | none => rfl
  | some x =>
    rw [Array.getD_eq_getD_getElem?, hg] at hv
    simp only [Option.getD_some] at hv
    subst hv; rfl

/-- One compact operation: is it wanted? -/
theorem iop_cases {ops : Array Oper} {o : Oper} {io : IOp} (h3 : chkGuard ops o.guard io.guard = true) {fr : Fr} {a : Act} (hf : FrR X.N e fr a) {k : Fr → Hp → T} (h : sat X Q (iopT io fr H k)) :
    (Region.wanted o (yielded ops a.tmps) = true ∧ ∃ fr', FrR X.N e fr' a ∧ sat X Q (opT fr H io.op fun v H' => k (put io.dst v fr') H')) ∨
    (Region.wanted o (yielded ops a.tmps) = false ∧ ∃ fr', FrR X.N e fr' a ∧ sat X Q (k (put io.dst (.tup []) fr') H)) := by
  unfold iopT at h
  unfold chkGuard at h3
  split at h3
  · rename_i hg1 hg2
    simp only [hg2] at h
    exact .inl ⟨by simp [Region.wanted, hg1], fr, hf, h⟩
  · rename_i j want g want' hg1 hg2
    simp only [hg2, lk_eq] at h
    simp only [Bool.and_eq_true] at h3
    obtain ⟨h5, h6⟩ := h3
    have := beqB_eq h5
    subst this
    split at h6
    · rename_i oj hoj
      have hdst := optEq_eq h6
      split at h
      · rename_i b hb
        have hval := hf.slot g
        rw [hb] at hval
        have hcv := val_bool' hval
        have hy : yielded ops a.tmps j = some b := yielded_of hoj hdst hcv
        have hw : Region.wanted o (yielded ops a.tmps) = (some b == some want) := by simp [Region.wanted, hg1, hy]
        rw [hw]
        have know : ∀ b', b = b' → FrR X.N e ((g, .t (.bool b')) :: fr) a := fun b' hb' => hf.know (by rw [hcv, hb']; exact mk_bool' _ _)
        cases want with
        | true =>
          simp only at h
          cases b with
          | true => exact .inl ⟨rfl, _, know true rfl, h.1 rfl⟩
          | false => exact .inr ⟨rfl, _, know false rfl, h.2 rfl⟩
        | false =>
          simp only at h
          cases b with
          | true => exact .inr ⟨rfl, _, know true rfl, h.1 rfl⟩
          | false => exact .inl ⟨rfl, _, know false rfl, h.2 rfl⟩
      · rename_i hb
        have hval := hf.slot g
        rw [hb] at hval
        exact .inr ⟨by simp [Region.wanted, hg1, yielded_none hoj hdst (val_none hval)], fr, hf, h⟩
      · exact h.elim
    · cases h6
  · cases h3

/-- One compact operation: what it gives. -/
theorem iop_upon {ops : Array Oper} {o : Oper} {io : IOp} (hc : chkIop X.P X.G X.N ops o io = true) {fr : Fr} {a : Act} (hr : Rel X.G e H w) (hf : FrR X.N e fr a) {k : Fr → Hp → T} (h : sat X Q (iopT io fr H k)) :
    (Region.wanted o (yielded ops a.tmps) = true ∧ Upon X.P ((execOp a.eval o).run X.P w) fun c w' => ∃ fr' e' H', FrR X.N e' fr' (a.put o.dst c) ∧ Step X.G e H w e' H' w' ∧ sat X Q (k fr' H')) ∨
    (Region.wanted o (yielded ops a.tmps) = false ∧ ∃ fr', FrR X.N e fr' (a.put o.dst undef) ∧ sat X Q (k fr' H)) := by
  simp only [chkIop, Bool.and_eq_true] at hc
  obtain ⟨⟨⟨h1, h2⟩, h3⟩, h4⟩ := hc
  have h1 := optEq_eq h1
  have h2 := optLt_eq h2
  have hop := chkI_sound h4
  rcases iop_cases h3 hf h with ⟨hw, fr', hf', hk⟩ | ⟨hw, fr', hf', hk⟩
  · refine .inl ⟨hw, (hop e H w fr a Q _ hr hf hk).mono ?_⟩
    rintro c w' ⟨v, e', H', hv, hst, hk⟩
    rw [← h1] at hk
    exact ⟨_, e', H', hf'.put (hst.to hr) h2 hv, hst, hk⟩
  · rw [← h1] at hk
    exact .inr ⟨hw, _, hf'.put (Step.to (Step.refl hr) hr) h2 (mk_none _), hk⟩

theorem iop_sound {ops : Array Oper} {o : Oper} {io : IOp} (hc : chkIop X.P X.G X.N ops o io = true) {fr : Fr} {a : Act} (hr : Rel X.G e H w) (hf : FrR X.N e fr a) {k : Fr → Hp → T} (h : sat X Q (iopT io fr H k)) {next : Act → World → Prop} {Qe : Exit → Act → World → Prop}
    (hn : ∀ fr' a' e' H' w', FrR X.N e' fr' a' → Step X.G e H w e' H' w' → sat X Q (k fr' H') → next a' w') :
    if Region.wanted o (yielded ops a.tmps) then o.wp X.P a w next Qe else next (a.put o.dst undef) w := by
  rcases iop_upon hc hr hf h with ⟨h1, h2⟩ | ⟨h1, fr', h2, h3⟩
  · rw [if_pos h1]
    exact h2.wp fun c w' ⟨fr', e', H', g1, g2, g3⟩ => hn fr' _ e' H' w' g1 g2 g3
  · rw [if_neg (by rw [h1]; simp)]
    exact hn fr' _ e H w h2 (Step.refl hr) h3

theorem ops_sound {ops : Array Oper} {Qe : Exit → Act → World → Prop} : ∀ {os : List Oper} {is : List IOp} {i : Nat}, chkOpsL X.P X.G X.N ops os is = true → (∀ j o, os[j]? = some o → ops[i + j]? = some o) →
    ∀ {e : Env} {H : Hp} {w : World} {fr : Fr} {a : Act} {k : Fr → Hp → T}, Rel X.G e H w → FrR X.N e fr a → sat X Q (opsT is fr H k) →
    (∀ fr' a' e' H' w', FrR X.N e' fr' a' → Step X.G e H w e' H' w' → sat X Q (k fr' H') → Qe .normal a' w') → wpOps X.P ops Qe (List.range' i os.length) a w
  | [], is, i, hc, hget, e, H, w, fr, a, k, hr, hf, h, hn => by
    cases is with
    | nil => exact hn fr a e H w hf (Step.refl hr) h
    | cons _ _ => simp [chkOpsL] at hc
  | o :: os, [], i, hc, hget, e, H, w, fr, a, k, hr, hf, h, hn => by simp [chkOpsL] at hc
  | o :: os, io :: is, i, hc, hget, e, H, w, fr, a, k, hr, hf, h, hn => by
    simp only [chkOpsL, Bool.and_eq_true] at hc
    simp only [opsT] at h
    have ho : ops[i]? = some o := by simpa using hget 0 o rfl
    rw [List.length_cons, List.range'_succ]
    simp only [wpOps, ho]
    have key := iop_sound (next := wpOps X.P ops Qe (List.range' (i + 1) os.length)) (Qe := Qe) hc.1 hr hf h (by
      intro fr' a' e' H' w' hf' hst hk
      refine ops_sound hc.2 (fun j o' hj => ?_) hst.rel hf' hk ?_
      · have := hget (j + 1) o' (by simpa using hj)
        rw [show i + 1 + j = i + (j + 1) by omega]; exact this
      · intro fr2 a2 e2 H2 w2 hf2 hst2 hk2
        exact hn fr2 a2 e2 H2 w2 hf2 (hst.trans hst2) hk2)
    by_cases hw : Region.wanted o (yielded ops a.tmps) = true
    · rw [if_pos hw] at key ⊢; exact .inl key
    · rw [if_neg hw] at key ⊢; exact key

/-- A region taken in the text's order. -/
def chkReg (P : Program) (G : Gl) (N : Nat) (dr : Nat → Array Oper → List IOp → Bool) (draw : Bool) (ops : Array Oper) (is : List IOp) : Bool :=
  match draw with
  | false => chkOpsL P G N ops ops.toList is
  | true => dr N ops is

theorem region_sound {id : Nat} {ops : Array Oper} {is : List IOp} (hc : chkOpsL X.P X.G X.N ops ops.toList is = true) {fr : Fr} {a : Act} {k : Fr → Hp → T} (hr : Rel X.G e H w) (hf : FrR X.N e fr a) (h : sat X Q (opsT is fr H k))
    {Qe : Exit → Act → World → Prop} (hn : ∀ fr' a' e' H' w', FrR X.N e' fr' a' → Step X.G e H w e' H' w' → sat X Q (k fr' H') → Qe .normal a' w') : (Code.region id ops false).wp X.P Qe a w := by
  refine wp_region ?_
  have := ops_sound (i := 0) hc (fun j o hj => by simpa using hj) hr hf h hn
  rw [List.range_eq_range']
  simpa using this
end Stk
