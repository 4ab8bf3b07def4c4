/- The framework, part 6: the instructions, one by one. -/
import Derived.Test.YthkbahbbdacgeaaDoorFw5
import Derived.Laws.Wrap64
namespace Stk
open Go

/-- What an operation comes to. -/
def Out (X : Cx) (e : Env) (H : Hp) (w : World) (Q : Ex → Fr → Hp → Prop) (k : AV → Hp → T) (r : Result Next) : Prop :=
  ∃ v c e' H' w', (r = .ok (.value c) w' ∨ (r = .ok .skip w' ∧ c = undef)) ∧ AV.val e' v c ∧ Step X.G e H w e' H' w' ∧ sat X Q (k v H')

/-- The same, of an operation that leaves everything as it is. -/
def Out0 (X : Cx) (e : Env) (H : Hp) (w : World) (Q : Ex → Fr → Hp → Prop) (k : AV → Hp → T) (r : Result Next) : Prop :=
  ∃ v c, (r = .ok (.value c) w ∨ (r = .ok .skip w ∧ c = undef)) ∧ AV.val e v c ∧ sat X Q (k v H)

def OpS0 (X : Cx) (op : Op) (i : I) : Prop :=
  ∀ (o : Oper), o.op = op → ∀ e H w fr a Q k, Rel X.G e H w → FrR X.N e fr a → sat X Q (opT fr H i k) → Out0 X e H w Q k ((execOp a.eval o).run X.P w)

def OpS (X : Cx) (op : Op) (i : I) : Prop :=
  ∀ (o : Oper), o.op = op → ∀ e H w fr a Q k, Rel X.G e H w → FrR X.N e fr a → sat X Q (opT fr H i k) → Out X e H w Q k ((execOp a.eval o).run X.P w)

variable {X : Cx} {Q : Ex → Fr → Hp → Prop} {e : Env} {H : Hp} {w : World}

theorem run_v {P : Program} {w w' : World} {s : Sem Value} {c : Value} (h : s.run P w = .ok c w') : (do pure (Next.value (← s)) : Sem Next).run P w = .ok (.value c) w' := by
  simp [h, Result.andThen]
theorem run_u {P : Program} {w w' : World} {s : Sem Unit} (h : s.run P w = .ok () w') : (do s; pure Next.skip : Sem Next).run P w = .ok .skip w' := by
  simp [h, Result.andThen]

theorem OpS0.toS {op : Op} {i : I} (h : OpS0 X op i) : OpS X op i := by
  intro o ho e H w fr a Q k hr hf hs
  obtain ⟨v, c, h1, h2, h3⟩ := h o ho e H w fr a Q k hr hf hs
  exact ⟨v, c, e, H, w, h1, h2, Step.refl hr, h3⟩
theorem Out.same (_ : Rel X.G e H w) {k : AV → Hp → T} {v : AV} {c : Value} (hv : AV.val e v c) (h : sat X Q (k v H)) : Out0 X e H w Q k (.ok (.value c) w) :=
  ⟨v, c, .inl rfl, hv, h⟩

theorem slRel_virt {b : Nat} {base : Option Addr} (h : e.β b = .virt) : slRel e b 0 [] 0 0 none [.slice base 0 0] := .inl ⟨h, rfl, rfl, rfl, rfl, rfl, base, rfl⟩
theorem nil_rel {m : Nat → Option (List Value)} {esz : Nat} {cs : List Value} (h : Tr.rel m (.sl true esz []) cs) : ∃ base, cs = [.slice base 0 0] := by
  simp only [Tr.rel] at h
  obtain ⟨base, cap, rfl, hf, _⟩ := h
  exact ⟨base, by rw [hf trivial]; rfl⟩

/-- A new empty slice of the own under a nil one or one without room. -/
theorem virt_sound (hr : Rel X.G e H w) {v : AV} {cs : List Value} (hv : AV.rel e v cs) {k : AV → Hp → T} (h : sat X Q (virtK H v k)) :
    ∃ v' e' H', sat X Q (k v' H') ∧ Step X.G e H w e' H' w ∧ AV.rel e' v' cs := by
  unfold virtK at h
  split at h
  · rename_i esz
    rw [newK_eq] at h
    simp only [AV.rel, AV.leaf] at hv
    obtain ⟨base, rfl⟩ := nil_rel hv
    have hst := Step.virt hr esz
    refine ⟨_, _, _, h, hst, ?_⟩
    simp only [AV.rel, AV.leaf]
    exact slRel_virt (e.bind_same _ _)
  · exact ⟨_, e, H, h, Step.refl hr, hv⟩

theorem AV.rels_replace {e e' : Env} : ∀ {vs : List AV} {cs : List Value}, AV.rels e vs cs → Env.To id e e' → ∀ {f : Nat} {x y : AV}, vs[f]? = some x → (∀ c, AV.rel e x c → AV.rel e' y c) → AV.rels e' (vs.set f y) cs
  | [], _, _, _, f, x, y, hx, _ => by simp at hx
  | v :: vs, cs, h, ht, f, x, y, hx, hxy => by
    simp only [AV.rels] at h
    obtain ⟨a, b, rfl, h1, h2⟩ := h
    cases f with
    | zero => simp at hx; subst hx; simp only [List.set_cons_zero, AV.rels]; exact ⟨a, b, rfl, hxy a h1, AV.rels_to ht h2⟩
    | succ f => simp only [List.set_cons_succ, AV.rels]; exact ⟨a, b, rfl, AV.rel_to ht h1, AV.rels_replace h2 ht (by simpa using hx) hxy⟩

theorem virts_sound : ∀ {vs : List Nat} {v : AV} {H : Hp} {e : Env} {cs : List Value} {k : AV → Hp → T}, Rel X.G e H w → AV.rel e v cs → sat X Q (virtsK vs v H k) →
    ∃ v' e' H', sat X Q (k v' H') ∧ Step X.G e H w e' H' w ∧ AV.rel e' v' cs ∧ (v.isAgg = true → v'.isAgg = true) ∧ (vs = [] → v' = v)
  | [], v, H, e, cs, k, hr, hv, h => ⟨v, e, H, h, Step.refl hr, hv, id, fun _ => rfl⟩
  | f :: vs, v, H, e, cs, k, hr, hv, h => by
    simp only [virtsK] at h
    obtain ⟨fs, hfs, h⟩ := sat_fieldsK h
    obtain ⟨x, hx, h⟩ := sat_nthK h
    rw [fieldsA_rel hfs] at hv
    obtain ⟨mid, hs, hxr, _⟩ := AV.rels_get hv hx
    -- the one field
    unfold virtK at h
    split at h
    · rename_i esz
      rw [newK_eq] at h
      obtain ⟨_, h⟩ := sat_setK h
      have hst := Step.virt hr esz
      have hrel : AV.rel (e.bind H.length .virt) (.agg (fs.set f (.sl H.length 0 [] 0 0 none))) cs := by
        simp only [AV.rel]
        refine AV.rels_replace hv (hst.to hr) hx fun c hc => ?_
        simp only [AV.rel, AV.leaf] at hc ⊢
        obtain ⟨base, rfl⟩ := nil_rel hc
        exact slRel_virt (e.bind_same _ _)
      obtain ⟨v', e', H', h, s, r, hi, _⟩ := virts_sound hst.rel hrel h
      exact ⟨v', e', H', h, hst.trans s, r, fun _ => hi rfl, fun h => by cases h⟩
    · obtain ⟨_, h⟩ := sat_setK h
      have hrel : AV.rel e (.agg (fs.set f x)) cs := by
        have : fs.set f x = fs := by
          apply List.ext_getElem?
          intro j
          rw [List.getElem?_set]
          by_cases hj : f = j
          · subst hj; rw [if_pos rfl, if_pos (lt_of_get hx), hx]
          · rw [if_neg hj]
        rw [this]; simpa [AV.rel] using hv
      obtain ⟨v', e', H', h, s, r, hi, _⟩ := virts_sound hr hrel h
      exact ⟨v', e', H', h, s, r, fun _ => hi rfl, fun h => by cases h⟩

theorem virts_val (hr : Rel X.G e H w) {v : AV} {c : Value} (hv : AV.val e v c) (hsol : v.solid = true) {vs : List Nat} {k : AV → Hp → T} (h : sat X Q (virtsK vs v H k)) :
    ∃ v' e' H', sat X Q (k v' H') ∧ Step X.G e H w e' H' w ∧ AV.val e' v' c ∧ AV.rel e' v' c.cells.toList := by
  have hvr := solid_rel hv hsol
  cases vs with
  | nil => exact ⟨v, e, H, h, Step.refl hr, hv, hvr⟩
  | cons f fs =>
    have hag : v.isAgg = true := by
      simp only [virtsK] at h
      obtain ⟨fl, hfl, _⟩ := sat_fieldsK h
      unfold fieldsA at hfl
      split at hfl <;> first | rfl | cases hfl
    have hc : ∃ cs, c = .agg cs := by
      rcases AV.val_of_rel hvr with _ | ⟨h1, _⟩
      · cases v with
        | agg xs => simp only [AV.val] at hv; obtain ⟨cs, rfl, _⟩ := hv; exact ⟨cs, rfl⟩
        | t x => simp only [AV.isAgg] at hag; simp only [AV.val, hag] at hv; obtain ⟨cs, rfl, _⟩ := hv; exact ⟨cs, rfl⟩
        | _ => simp [AV.isAgg] at hag
      · rw [hag] at h1; cases h1
    obtain ⟨cs, rfl⟩ := hc
    obtain ⟨v', e', H', h, s, r, hi, _⟩ := virts_sound hr hvr h
    refine ⟨v', e', H', h, s, ?_, r⟩
    rcases AV.val_of_rel r with ⟨_, h2⟩ | ⟨h1, _⟩
    · simpa [Value.cells] using h2
    · rw [hi hag] at h1; cases h1

/-- A new variable. -/
theorem newvar_sound (hr : Rel X.G e H w) {v : AV} {cs : Array Value} (hv : AV.rel e v cs.toList) {k : AV → Hp → T} (h : sat X Q (newK (.var v) H fun b H' => k (.ptr b 0 0 [] none) H')) {t : TypeId} :
    ∃ e' H', AV.val e' (.ptr H.length 0 0 [] none) (.pointer (some ⟨w.heap.size, 0, none⟩)) ∧ Step X.G e H w e' H' (w.alloc (.cells cs t)) ∧ sat X Q (k (.ptr H.length 0 0 [] none) H') := by
  rw [newK_eq] at h
  have hst := Step.new (o := .var v) (ob := .cells cs t) (esz := 1) (cap := 0) (n := none) hr ⟨rfl, rfl, cs, t, (0, 0), rfl, hv, ⟨Nat.le_refl _, fun i _ => by simp⟩⟩
  refine ⟨_, _, ?_, hst, h⟩
  simp only [AV.val, AV.leaf]
  exact ⟨_, _, _, _, e.bind_same _ _, by simp⟩

theorem run_newVar {P : Program} (t : TypeId) (v : Value) (w : World) : (newVar t v).run P w = .ok ⟨w.heap.size, 0, none⟩ (w.alloc (.cells v.cells t)) := by
  simp [newVar, newRow, newObj, bind, Sem.bind, Sem.run, pure]

/-! ### The first instructions -/
theorem op_mv {x : Opd} {y : Operand} (h : chkOpd X.G x y = true) {op : Op} (hop : op = .move y ∨ op = .assign y) : OpS0 X op (.mv x) := by
  intro o ho e H w fr a Q k hr hf hs
  have hv := chkOpd_val hr hf h
  simp only [opT, evK_eq] at hs
  have : (execOp a.eval o).run X.P w = .ok (.value (a.eval y)) w := by
    rcases hop with rfl | rfl <;> simp [execOp, ho]
  rw [this]
  exact Out.same hr hv hs

theorem op_mvf {x : Opd} {y : Operand} (h : chkOpd X.G x y = true) {op : Op} (hop : op = .move y ∨ op = .assign y) : OpS X op (.mvf x) := by
  intro o ho e H w fr a Q k hr hf hs
  have hv := chkOpd_val hr hf h
  simp only [opT, evK_eq] at hs
  have : (execOp a.eval o).run X.P w = .ok (.value (a.eval y)) w := by
    rcases hop with rfl | rfl <;> simp [execOp, ho]
  rw [this]
  split at hs
  · rename_i z hz
    rw [hz] at hv
    exact ⟨_, _, _, _, _, .inl rfl, hv, Step.refl hr, hs⟩
  · rename_i b o' p off len cap hz
    rw [hz] at hv
    simp only [AV.val] at hv
    obtain ⟨z, e', H', h1, h2, h3⟩ := frz_sound hr (v := .sl b o' p off len cap) (c := [a.eval y]) (by simpa only [AV.rel] using hv) hs
    split at h1
    · exact h1.elim
    · rename_i hz1
      exact ⟨_, _, _, _, _, .inl rfl, by simp only [AV.val, hz1]; exact h3, h2, h1⟩
  · exact hs.elim

theorem op_nsl {esz : Nat} {op : Op} (hop : op = .move (.const (.slice none 0 0)) ∨ op = .assign (.const (.slice none 0 0))) : OpS X op (.nsl esz) := by
  intro o ho e H w fr a Q k hr hf hs
  simp only [opT, newK_eq] at hs
  have : (execOp a.eval o).run X.P w = .ok (.value (.slice none 0 0)) w := by
    rcases hop with rfl | rfl <;> simp [execOp, ho, Act.eval]
  rw [this]
  refine ⟨_, _, _, _, _, .inl rfl, ?_, Step.virt hr esz, hs⟩
  simp only [AV.val, AV.leaf]
  exact slRel_virt (e.bind_same _ _)

theorem val_bool {b : Bool} {c : Value} (h : AV.val e (.t (.bool b)) c) : c = .bool b := by
  simp only [AV.val, Tr.isAgg, Tr.rel] at h; simpa using h
theorem val_int {j : IntKind} {n : Int} {c : Value} (h : AV.val e (.t (.int j n)) c) : c = .int j n := by
  simp only [AV.val, Tr.isAgg, Tr.rel] at h; simpa using h
theorem val_str {s : ByteArray} {c : Value} (h : AV.val e (.t (.str s)) c) : c = .string s := by
  simp only [AV.val, Tr.isAgg, Tr.rel] at h; simpa using h
theorem mk_bool (e : Env) (b : Bool) : AV.val e (.t (.bool b)) (.bool b) := by simp [AV.val, Tr.isAgg, Tr.rel]
theorem mk_int (e : Env) (j : IntKind) (n : Int) : AV.val e (.t (.int j n)) (.int j n) := by simp [AV.val, Tr.isAgg, Tr.rel]
theorem mk_str (e : Env) (s : ByteArray) : AV.val e (.t (.str s)) (.string s) := by simp [AV.val, Tr.isAgg, Tr.rel]

theorem op_pick {c x y : Opd} {c' x' y' : Operand} (hc : chkOpd X.G c c' = true) (hx : chkOpd X.G x x' = true) (hy : chkOpd X.G y y' = true) : OpS0 X (.pick c' x' y') (.pick c x y) := by
  intro o ho e H w fr a Q k hr hf hs
  have hcv := chkOpd_val hr hf hc
  have hxv := chkOpd_val hr hf hx
  have hyv := chkOpd_val hr hf hy
  simp only [opT, evK_eq] at hs
  split at hs
  · rename_i b hb
    rw [hb] at hcv
    have hcb := val_bool hcv
    simp only [sat] at hs
    cases b with
    | true =>
      have : (execOp a.eval o).run X.P w = .ok (.value (a.eval x')) w := by simp [execOp, ho, hcb, asBool]
      rw [this]; exact Out.same hr hxv (hs.1 rfl)
    | false =>
      have : (execOp a.eval o).run X.P w = .ok (.value (a.eval y')) w := by simp [execOp, ho, hcb, asBool]
      rw [this]; exact Out.same hr hyv (hs.2 rfl)
  · exact hs.elim

def zeroOK (P : Program) (t : TypeId) (z : Tr) : Bool :=
  match P.info? t with
  | some i => match i.zero with
    | some v => (v.cells.size == i.size) && (chkT z v.cells.toList matches some []) && (z.isAgg == (v matches .agg _))
    | none => false
  | none => false
theorem zeroOK_run {t : TypeId} {z : Tr} (h : zeroOK X.P t z = true) (m : Nat → Option (List Value)) : ∃ v i, X.P.info? t = some i ∧ i.zero = some v ∧ v.cells.size = i.size ∧ Tr.rel m z v.cells.toList ∧ (∀ w, (zeroValue t).run X.P w = .ok v w) := by
  unfold zeroOK at h
  split at h
  · rename_i i hi
    split at h
    · rename_i v hv
      simp only [Bool.and_eq_true, beq_iff_eq] at h
      obtain ⟨⟨h1, h2⟩, _⟩ := h
      split at h2
      · rename_i hc
        obtain ⟨a, ha, hr⟩ := chkT_rel (m := m) hc
        rw [List.append_nil] at ha
        exact ⟨v, i, hi, hv, h1, by rw [ha]; exact hr, fun w => by simp [zeroValue, typeInfo, program, bind, Sem.bind, Sem.run, hi, pure, hv]⟩
      · simp at h2
    · cases h
  · cases h

theorem op_alloc {t : TypeId} {z : Tr} {vs : List Nat} (h : zeroOK X.P t z = true) : OpS X (.alloc t) (.alloc z vs) := by
  intro o ho e H w fr a Q k hr hf hs
  obtain ⟨v, i, _, _, _, hz, hrun⟩ := zeroOK_run h e.ro
  simp only [opT] at hs
  obtain ⟨v', e1, H1, hs, s1, hr1, _⟩ := virts_sound (cs := v.cells.toList) hr (by simp only [AV.rel, AV.leaf]; exact hz) hs
  obtain ⟨e2, H2, hv2, s2, hs2⟩ := newvar_sound s1.rel hr1 hs (t := t)
  have : (execOp a.eval o).run X.P w = .ok (.value (.pointer (some ⟨w.heap.size, 0, none⟩))) (w.alloc (.cells v.cells t)) := by
    simp only [execOp, ho]
    refine run_v ?_
    simp [Instr.alloc, Sem.run_bind, hrun, Result.andThen, run_newVar]
  rw [this]
  exact ⟨_, _, _, _, _, .inl rfl, hv2, s1.trans s2, hs2⟩

theorem op_box {x : Opd} {x' : Operand} {t : TypeId} {vs : List Nat} (hx : chkOpd X.G x x' = true) : OpS X (.box t x') (.box x vs) := by
  intro o ho e H w fr a Q k hr hf hs
  have hxv := chkOpd_val hr hf hx
  simp only [opT, evK_eq] at hs
  obtain ⟨hsol, hs⟩ := sat_solid hs
  have hxr := solid_rel hxv hsol
  obtain ⟨v', e1, H1, hs, s1, hr1, _⟩ := virts_sound hr hxr hs
  obtain ⟨e2, H2, hv2, s2, hs2⟩ := newvar_sound s1.rel hr1 hs (t := t)
  have : (execOp a.eval o).run X.P w = .ok (.value (.pointer (some ⟨w.heap.size, 0, none⟩))) (w.alloc (.cells (a.eval x').cells t)) := by
    simp only [execOp, ho]
    refine run_v ?_
    simp [Instr.box, Result.andThen, run_newVar]
  rw [this]
  exact ⟨_, _, _, _, _, .inl rfl, hv2, s1.trans s2, hs2⟩

theorem op_load {x : Opd} {x' : Operand} {t : TypeId} {agg : Bool} {n : Nat} (hx : chkOpd X.G x x' = true) (ht : tyOK X.P t agg n = true) : OpS0 X (.load t x') (.load agg n x) := by
  intro o ho e H w fr a Q k hr hf hs
  have hxv := chkOpd_val hr hf hx
  simp only [opT, evK_eq] at hs
  obtain ⟨v, cv, hs, hv, ad, hc, hrun⟩ := load_sound hr hxv hs
  have : (execOp a.eval o).run X.P w = .ok (.value cv) w := by
    simp only [execOp, ho]
    refine run_v ?_
    simp only [Instr.loadAt, hc, Instr.sureAddr, pure_bind]
    exact hrun X.P t ht
  rw [this]
  exact Out.same hr hv hs

theorem op_store {x y : Opd} {x' y' : Operand} {t : TypeId} {n : Nat} {vs : List Nat} (hx : chkOpd X.G x x' = true) (hy : chkOpd X.G y y' = true) (ht : (X.P.info? t).map (·.size) = some n) : OpS X (.store t x' y') (.store n x y vs) := by
  intro o ho e H w fr a Q k hr hf hs
  have hxv := chkOpd_val hr hf hx
  have hyv := chkOpd_val hr hf hy
  simp only [opT, evK_eq] at hs
  obtain ⟨hsol, hs⟩ := sat_solid hs
  obtain ⟨v', e1, H1, hs, s1, hv', _⟩ := virts_val hr hyv hsol hs
  obtain ⟨e2, H2, w2, hs2, s2, ad, hc, hrun⟩ := store_sound s1.rel (AV.val_to (s1.to hr) hxv) hv' hs
  have : (execOp a.eval o).run X.P w = .ok .skip w2 := by
    simp only [execOp, ho]
    refine run_u ?_
    simp only [Instr.storeAt, hc, Instr.sureAddr, pure_bind]
    exact hrun X.P t ht
  rw [this]
  exact ⟨_, _, _, _, _, .inr ⟨rfl, rfl⟩, by simp [AV.val], s1.trans s2, hs2⟩

theorem op_storeN {x : Opd} {x' : Operand} {t : TypeId} {n esz : Nat} (hx : chkOpd X.G x x' = true) (ht : (X.P.info? t).map (·.size) = some n) : OpS X (.store t x' (.const (.slice none 0 0))) (.storeN n esz x) := by
  intro o ho e H w fr a Q k hr hf hs
  have hxv := chkOpd_val hr hf hx
  simp only [opT, evK_eq, newK_eq] at hs
  have s1 := Step.virt hr esz
  have hv : AV.val (e.bind H.length .virt) (.sl H.length 0 [] 0 0 none) (.slice none 0 0) := by
    simp only [AV.val, AV.leaf]
    exact slRel_virt (e.bind_same _ _)
  obtain ⟨e2, H2, w2, hs2, s2, ad, hc, hrun⟩ := store_sound s1.rel (AV.val_to (s1.to hr) hxv) hv hs
  have : (execOp a.eval o).run X.P w = .ok .skip w2 := by
    simp only [execOp, ho]
    refine run_u ?_
    simp only [Instr.storeAt, hc, Instr.sureAddr, pure_bind]
    exact hrun X.P t ht
  rw [this]
  exact ⟨_, _, _, _, _, .inr ⟨rfl, rfl⟩, by simp [AV.val], s1.trans s2, hs2⟩

theorem op_nilck {x : Opd} {x' : Operand} (hx : chkOpd X.G x x' = true) : OpS0 X (.nilCheck x') (.nilck x) := by
  intro o ho e H w fr a Q k hr hf hs
  have hxv := chkOpd_val hr hf hx
  simp only [opT, evK_eq] at hs
  have key : (∃ ad, a.eval x' = .pointer (some ad)) ∨ (∃ f vs ws, a.eval x' = .func (.func f) vs ws) → (execOp a.eval o).run X.P w = .ok (.value (a.eval x')) w := by
    rintro (⟨ad, h⟩ | ⟨f, vs, ws, h⟩) <;> simp [execOp, ho, h]
  split at hs
  · rename_i b i o' p ix hv
    rw [hv] at hxv
    have hxv' := hxv
    simp only [AV.val, AV.leaf] at hxv'
    obtain ⟨_, _, _, _, _, hc⟩ := hxv'
    rw [key (.inl ⟨_, by simpa using hc⟩)]
    exact Out.same hr hxv hs
  · rename_i y hv
    rw [hv] at hxv
    have hxv' := hxv
    simp only [AV.val, AV.leaf] at hxv'
    obtain ⟨_, _, _, hc, _⟩ := hxv'
    rw [key (.inl ⟨_, by simpa using hc⟩)]
    exact Out.same hr hxv hs
  · rename_i f ys zs hv
    rw [hv] at hxv
    have hxv' := hxv
    simp only [AV.val] at hxv'
    obtain ⟨_, _, hc, _⟩ := hxv'
    rw [key (.inr ⟨_, _, _, hc⟩)]
    exact Out.same hr hxv hs
  · exact hs.elim

theorem execOp_bin {o : Oper} {op : BinOp} {t u : TypeId} {x y : Operand} (ho : o.op = .binOp op t x y u) (ev : Operand → Value) (w : World) {c : Value}
    (hg : (eqGuard op t x y (ev x) (ev y)).run X.P w = .ok () w) (h : (binOp op t (ev x) (ev y)).run X.P w = .ok c w) : (execOp ev o).run X.P w = .ok (.value c) w := by
  simp only [execOp, ho]
  refine run_v ?_
  simp [Sem.run_bind, hg, h, Result.andThen]

theorem eqGuard_int {op : BinOp} {t : TypeId} {x y : Operand} {P : Program} {j k : IntKind} {m n : Int} {w : World} : (eqGuard op t x y (.int j m) (.int k n)).run P w = .ok () w := by
  unfold eqGuard; split <;> simp
theorem eqGuard_str {op : BinOp} {t : TypeId} {x y : Operand} {P : Program} {s u : ByteArray} {w : World} : (eqGuard op t x y (.string s) (.string u)).run P w = .ok () w := by
  unfold eqGuard; split <;> simp
theorem eqGuard_bool {op : BinOp} {t : TypeId} {x y : Operand} {P : Program} {s u : Bool} {w : World} : (eqGuard op t x y (.bool s) (.bool u)).run P w = .ok () w := by
  unfold eqGuard; split <;> simp

theorem op_arith {op : BinOp} {t u : TypeId} {x y : Opd} {x' y' : Operand} (hx : chkOpd X.G x x' = true) (hy : chkOpd X.G y y' = true) : OpS0 X (.binOp op t x' y' u) (.arith op x y) := by
  intro o ho e H w fr a Q k hr hf hs
  have hxv := chkOpd_val hr hf hx
  have hyv := chkOpd_val hr hf hy
  simp only [opT, evK_eq] at hs
  unfold arithK at hs
  split at hs
  · rename_i j m j' n hxa hya
    rw [hxa] at hxv; rw [hya] at hyv
    have ex := val_int hxv
    have ey := val_int hyv
    have fin {c : Int} {kk : IntKind} (h : (binOp op t (.int j m) (.int j' n)).run X.P w = .ok (.int kk c) w) (hs : sat X Q (k (.t (.int kk c)) H)) : Out0 X e H w Q k ((execOp a.eval o).run X.P w) := by
      rw [execOp_bin ho a.eval w (c := .int kk c) (by rw [ex, ey]; exact eqGuard_int) (by rw [ex, ey]; exact h)]
      exact Out.same hr (mk_int _ _ _) hs
    split at hs
    · simp only [sat] at hs
      obtain ⟨h0, hs⟩ := hs
      have h0 := of_decide_eq_true h0
      refine fin (c := j.wrap (m * 2 ^ (min n.toNat j.bits))) (kk := j) ?_ hs
      simp [binOp, Op.shift, if_neg (by omega : ¬ n < 0)]
    · simp only [sat] at hs
      obtain ⟨h0, hs⟩ := hs
      have h0 := of_decide_eq_true h0
      refine fin (c := m.fdiv (2 ^ (min n.toNat j.bits))) (kk := j) ?_ hs
      simp [binOp, Op.shift, if_neg (by omega : ¬ n < 0)]
    · rename_i op' hne1 hne2
      split at hs
      · exact hs.elim
      · rename_i hk
        obtain rfl := kindEq_eq hk
        split at hs
        · exact fin (kk := j) (by simp [binOp, Op.intArith]) hs
        · exact fin (kk := j) (by simp [binOp, Op.intArith]) hs
        · exact fin (kk := j) (by simp [binOp, Op.intArith]) hs
        · simp only [sat] at hs
          obtain ⟨h0, hs⟩ := hs
          have h0 : n ≠ 0 := by simpa using h0
          exact fin (kk := j) (by simp [binOp, Op.intDiv, h0]) hs
        · simp only [sat] at hs
          obtain ⟨h0, hs⟩ := hs
          have h0 : n ≠ 0 := by simpa using h0
          exact fin (kk := j) (by simp [binOp, Op.intDiv, h0]) hs
        · exact fin (kk := j) (by simp [binOp, Op.intBits, bitsV]) hs
        · exact fin (kk := j) (by simp [binOp, Op.intBits, bitsV]) hs
        · exact fin (kk := j) (by simp [binOp, Op.intBits, bitsV]) hs
        · exact fin (kk := j) (by simp [binOp, Op.intBits, bitsV]) hs
        · exact hs.elim
  · rename_i s u' hxa hya
    rw [hxa] at hxv; rw [hya] at hyv
    have ex := val_str hxv
    have ey := val_str hyv
    split at hs
    · simp only [sat] at hs
      obtain ⟨h0, hs⟩ := hs
      have h0 := of_decide_eq_true h0
      rw [execOp_bin ho a.eval w (c := .string (s ++ u')) (by rw [ex, ey]; exact eqGuard_str) (by rw [ex, ey]; simp only [binOp, Op.stringOp]; rw [if_neg (by omega)]; rfl)]
      exact Out.same hr (mk_str _ _) hs
    · exact hs.elim
  · exact hs.elim

theorem op_cmp {op : BinOp} {t u : TypeId} {x y : Opd} {x' y' : Operand} (hx : chkOpd X.G x x' = true) (hy : chkOpd X.G y y' = true) : OpS0 X (.binOp op t x' y' u) (.cmp op x y) := by
  intro o ho e H w fr a Q k hr hf hs
  have hxv := chkOpd_val hr hf hx
  have hyv := chkOpd_val hr hf hy
  simp only [opT, evK_eq] at hs
  unfold cmpK at hs
  split at hs
  · rename_i j m j' n hxa hya
    rw [hxa] at hxv; rw [hya] at hyv
    have ex := val_int hxv
    have ey := val_int hyv
    have fin {c : Bool} (h : (binOp op t (.int j m) (.int j' n)).run X.P w = .ok (.bool c) w) (hs : sat X Q (k (.t (.bool c)) H)) : Out0 X e H w Q k ((execOp a.eval o).run X.P w) := by
      rw [execOp_bin ho a.eval w (c := .bool c) (by rw [ex, ey]; exact eqGuard_int) (by rw [ex, ey]; exact h)]
      exact Out.same hr (mk_bool _ _) hs
    split at hs
    · exact hs.elim
    · rename_i hk
      obtain rfl := kindEq_eq hk
      split at hs <;> first
        | exact hs.elim
        | exact fin (by simp [binOp, Op.intCmp]) hs
  · rename_i s u' hxa hya
    rw [hxa] at hxv; rw [hya] at hyv
    have ex := val_str hxv
    have ey := val_str hyv
    have fin {c : Bool} (h : (binOp op t (.string s) (.string u')).run X.P w = .ok (.bool c) w) (hs : sat X Q (k (.t (.bool c)) H)) : Out0 X e H w Q k ((execOp a.eval o).run X.P w) := by
      rw [execOp_bin ho a.eval w (c := .bool c) (by rw [ex, ey]; exact eqGuard_str) (by rw [ex, ey]; exact h)]
      exact Out.same hr (mk_bool _ _) hs
    split at hs <;> first
      | exact hs.elim
      | exact fin (by simp [binOp, Op.stringOp]) hs
  · exact hs.elim

theorem run_under {P : Program} {t : TypeId} {d : TypeDesc} (h : P.underlying t = some d) (w : World) : (underlying t).run P w = .ok d w := by
  simp [underlying, program, bind, Sem.bind, Sem.run, h, pure]

theorem equal_eq (t : TypeId) (x y : Value) : Op.equal t x y = Op.equalIn (9999 + 1) t x y := rfl
theorem run_equal_bool {P : Program} {t : TypeId} (h : P.underlying t = some .bool) (p q : Bool) (w : World) : (Op.equal t (.bool p) (.bool q)).run P w = .ok (p == q) w := by
  rw [equal_eq]
  generalize 9999 = d
  simp only [Op.equalIn, Sem.run_bind, run_under h, Result.andThen]
  rfl

theorem op_cmpb {op : BinOp} {neg : Bool} {t u : TypeId} {x y : Opd} {x' y' : Operand} (hx : chkOpd X.G x x' = true) (hy : chkOpd X.G y y' = true) (hop : op = if neg then .neq else .eql) (ht : X.P.underlying t = some .bool) :
    OpS0 X (.binOp op t x' y' u) (.cmpb neg x y) := by
  intro o ho e H w fr a Q k hr hf hs
  have hxv := chkOpd_val hr hf hx
  have hyv := chkOpd_val hr hf hy
  simp only [opT, evK_eq] at hs
  split at hs
  · rename_i p q hxa hya
    rw [hxa] at hxv; rw [hya] at hyv
    have ex := val_bool hxv
    have ey := val_bool hyv
    rw [execOp_bin ho a.eval w (c := .bool (nb neg (p == q))) (by rw [ex, ey]; exact eqGuard_bool) (by
      rw [ex, ey]; subst hop; cases neg <;> simp [binOp, run_equal_bool ht, Result.andThen, nb])]
    exact Out.same hr (mk_bool _ _) hs
  · exact hs.elim

theorem op_un {op : UnOp} {t : TypeId} {x : Opd} {x' : Operand} (hx : chkOpd X.G x x' = true) : OpS0 X (.unOp op t x') (.un op x) := by
  intro o ho e H w fr a Q k hr hf hs
  have hxv := chkOpd_val hr hf hx
  simp only [opT, evK_eq] at hs
  have fin {c : Value} {v : AV} (h : (Op.unary op (a.eval x')).run X.P w = .ok c w) (hv : AV.val e v c) (hs : sat X Q (k v H)) : Out0 X e H w Q k ((execOp a.eval o).run X.P w) := by
    have : (execOp a.eval o).run X.P w = .ok (.value c) w := by
      simp only [execOp, ho]; exact run_v h
    rw [this]; exact Out.same hr hv hs
  unfold unK at hs
  split at hs
  · rename_i b hxa
    rw [hxa] at hxv
    exact fin (by rw [val_bool hxv]; simp [Op.unary]) (mk_bool _ _) hs
  · rename_i j n hxa
    rw [hxa] at hxv
    exact fin (by rw [val_int hxv]; simp [Op.unary, Op.intArith]) (mk_int _ _ _) hs
  · rename_i j n hxa
    rw [hxa] at hxv
    exact fin (by rw [val_int hxv]; simp [Op.unary, Op.intBits, bitsV]) (mk_int _ _ _) hs
  · exact hs.elim

theorem op_toInt {s d : TypeId} {j : IntKind} {x : Opd} {x' : Operand} (hx : chkOpd X.G x x' = true) (h1 : (X.P.underlying s).isSome = true) (h2 : X.P.underlying d = some (.int j)) : OpS0 X (.convert s d x') (.toInt j x) := by
  intro o ho e H w fr a Q k hr hf hs
  have hxv := chkOpd_val hr hf hx
  simp only [opT, evK_eq] at hs
  split at hs
  · rename_i k' n hxa
    rw [hxa] at hxv
    obtain ⟨d1, hd1⟩ := Option.isSome_iff_exists.1 h1
    have : (execOp a.eval o).run X.P w = .ok (.value (.int j (j.wrap n))) w := by
      simp only [execOp, ho]
      refine run_v ?_
      rw [val_int hxv]
      simp only [convert, Sem.run_bind, run_under hd1, run_under h2, Result.andThen]
      cases d1 <;> simp [Conv.intToInt]
    rw [this]; exact Out.same hr (mk_int _ _ _) hs
  · exact hs.elim

def nkOK (kd : NK) : TypeDesc → Bool
  | .pointer _ => (kd matches .ptr)
  | .slice _ => (kd matches .sl)
  | .map _ _ => (kd matches .mp)
  | .func _ _ _ => (kd matches .fn)
  | .interface _ => (kd matches .ifc)
  | _ => false
def nilC : NK → Value
  | .ptr => .pointer none
  | .sl => .slice none 0 0
  | .mp => .map none
  | .fn => .nilFunc
  | .ifc => .nilIface
/-- Is a value nil? -/
def isNilV : Value → Bool
  | .pointer none | .slice none _ _ | .map none | .nilFunc | .nilIface => true
  | _ => false
def ofKind : NK → Value → Bool
  | .ptr, .pointer _ | .sl, .slice _ _ _ | .mp, .map _ | .fn, .nilFunc | .fn, .func _ _ _ | .ifc, .nilIface | .ifc, .iface _ _ => true
  | _, _ => false

theorem equal_nil {P : Program} {t : TypeId} {d : TypeDesc} {kd : NK} (h : P.underlying t = some d) (hk : nkOK kd d = true) {c : Value} (hc : ofKind kd c = true) (w : World) :
    (Op.equal t c (nilC kd)).run P w = .ok (isNilV c) w ∧ (Op.equal t (nilC kd) c).run P w = .ok (isNilV c) w := by
  rw [equal_eq, equal_eq]
  generalize 9999 = dd
  have ptr {q : TypeId} (r : Option Addr) (h : P.underlying t = some (.pointer q)) : (Op.equalIn (dd + 1) t (.pointer r) (.pointer none)).run P w = .ok (isNilV (.pointer r)) w ∧ (Op.equalIn (dd + 1) t (.pointer none) (.pointer r)).run P w = .ok (isNilV (.pointer r)) w := by
    simp only [Op.equalIn, Sem.run_bind, run_under h, Result.andThen]; cases r <;> exact ⟨rfl, rfl⟩
  have sl {q : TypeId} (r : Option Addr) (n m : Nat) (h : P.underlying t = some (.slice q)) : (Op.equalIn (dd + 1) t (.slice r n m) (.slice none 0 0)).run P w = .ok (isNilV (.slice r n m)) w ∧ (Op.equalIn (dd + 1) t (.slice none 0 0) (.slice r n m)).run P w = .ok (isNilV (.slice r n m)) w := by
    simp only [Op.equalIn, Sem.run_bind, run_under h, Result.andThen]; cases r <;> exact ⟨rfl, rfl⟩
  have mp {q u : TypeId} (r : Option Nat) (h : P.underlying t = some (.map q u)) : (Op.equalIn (dd + 1) t (.map r) (.map none)).run P w = .ok (isNilV (.map r)) w ∧ (Op.equalIn (dd + 1) t (.map none) (.map r)).run P w = .ok (isNilV (.map r)) w := by
    simp only [Op.equalIn, Sem.run_bind, run_under h, Result.andThen]; cases r <;> exact ⟨rfl, rfl⟩
  cases d <;> cases kd <;> simp [nkOK] at hk
  · cases c <;> simp [ofKind] at hc; exact ptr _ h
  · cases c <;> simp [ofKind] at hc; exact sl _ _ _ h
  · cases c <;> simp [ofKind] at hc; exact mp _ h
  · cases c <;> simp [ofKind] at hc <;> simp only [nilC, Op.equalIn, Sem.run_bind, run_under h, Result.andThen] <;> exact ⟨rfl, rfl⟩
  · cases c <;> simp [ofKind] at hc <;> simp only [nilC, Op.equalIn, Sem.run_bind, run_under h, Result.andThen] <;> exact ⟨rfl, rfl⟩

theorem op_isnil {op : BinOp} {neg : Bool} {t u : TypeId} {x : Opd} {x' y1 y2 : Operand} {kd : NK} {d : TypeDesc} (hx : chkOpd X.G x x' = true) (hop : op = if neg then .neq else .eql) (ht : X.P.underlying t = some d) (hk : nkOK kd d = true)
    (hy : (y1 = x' ∧ y2 = .const (nilC kd)) ∨ (y2 = x' ∧ y1 = .const (nilC kd))) : OpS0 X (.binOp op t y1 y2 u) (.isnil kd neg x) := by
  intro o ho e H w fr a Q k hr hf hs
  have hxv := chkOpd_val hr hf hx
  simp only [opT, evK_eq] at hs
  have main : ofKind kd (a.eval x') = true → (execOp a.eval o).run X.P w = .ok (.value (.bool (nb neg (isNilV (a.eval x'))))) w := by
    intro hc
    obtain ⟨e1, e2⟩ := equal_nil ht hk hc w
    have hg : (eqGuard op t y1 y2 (a.eval y1) (a.eval y2)).run X.P w = .ok () w := by
      have hn : ∀ z, a.eval (.const z) = z := fun z => rfl
      rcases hy with ⟨g1, g2⟩ | ⟨g1, g2⟩ <;> rw [g1, g2, hn] <;> unfold eqGuard <;> (subst hop; cases neg) <;> (cases kd <;> simp only [nilC]) <;> (cases hcc : a.eval x' <;> rw [hcc] at hc <;> simp only [ofKind, Bool.false_eq_true] at hc <;> simp)
    refine execOp_bin ho a.eval w hg ?_
    have hn : ∀ z, a.eval (.const z) = z := fun z => rfl
    rcases hy with ⟨g1, g2⟩ | ⟨g1, g2⟩ <;> rw [g1, g2, hn] <;> (subst hop; cases neg) <;> (cases kd <;> cases hcc : a.eval x' <;> rw [hcc] at hc e1 e2 <;> simp only [ofKind, Bool.false_eq_true] at hc) <;>
      simp only [nilC] at e1 e2 ⊢ <;> simp [binOp, nb, e1, e2, Result.andThen]
  have fin {b : Bool} (h1 : ofKind kd (a.eval x') = true) (h2 : nb neg (isNilV (a.eval x')) = b) (hs : sat X Q (k (.t (.bool b)) H)) : Out0 X e H w Q k ((execOp a.eval o).run X.P w) := by
    rw [main h1, h2]; exact Out.same hr (mk_bool _ _) hs
  have sl {base : Option Addr} {n c : Nat} (hkd : kd = .sl) (hc : a.eval x' = .slice base n c) (h0 : n ≠ 0 → base ≠ none) (b : Bool) (hb : b = (n == 0)) (hs2 : sat X Q (.br b (.any (k (.t (.bool true)) H) (k (.t (.bool false)) H)) (k (.t (.bool neg)) H))) :
      Out0 X e H w Q k ((execOp a.eval o).run X.P w) := by
    subst hkd
    by_cases hn : n = 0
    · obtain ⟨ht, hf⟩ := hs2.1 (by simp [hb, hn])
      cases hb1 : nb neg (isNilV (a.eval x')) with
      | true => exact fin (by simp [hc, ofKind]) hb1 ht
      | false => exact fin (by simp [hc, ofKind]) hb1 hf
    · refine fin (by simp [hc, ofKind]) ?_ (hs2.2 (by simp [hb, hn]))
      rw [hc]
      cases base with
      | none => exact absurd rfl (h0 hn)
      | some ad => cases neg <;> rfl
  unfold isnilK at hs
  split at hs
  · rename_i hxa; rw [hxa] at hxv; simp only [AV.val, Tr.isAgg, Tr.rel] at hxv
    exact fin (by simp at hxv; simp [hxv, ofKind]) (by simp at hxv; rw [hxv]; cases neg <;> rfl) hs
  · rename_i hxa; rw [hxa] at hxv; simp only [AV.val, Tr.isAgg, Tr.rel] at hxv
    exact fin (by simp at hxv; simp [hxv, ofKind]) (by simp at hxv; rw [hxv]; cases neg <;> rfl) hs
  · rename_i hxa; rw [hxa] at hxv; simp only [AV.val, Tr.isAgg, Tr.rel] at hxv
    exact fin (by simp at hxv; simp [hxv, ofKind]) (by simp at hxv; rw [hxv]; cases neg <;> rfl) hs
  · rename_i hxa; rw [hxa] at hxv; simp only [AV.val, Tr.isAgg, Tr.rel] at hxv
    exact fin (by simp at hxv; simp [hxv, ofKind]) (by simp at hxv; rw [hxv]; cases neg <;> rfl) hs
  · rename_i hxa; rw [hxa] at hxv; simp only [AV.val, AV.leaf] at hxv
    obtain ⟨_, _, _, _, _, hc⟩ := hxv
    simp at hc
    exact fin (by simp [hc, ofKind]) (by rw [hc]; cases neg <;> rfl) hs
  · rename_i hxa; rw [hxa] at hxv; simp only [AV.val, AV.leaf] at hxv
    obtain ⟨_, _, _, hc, _⟩ := hxv
    simp at hc
    exact fin (by simp [hc, ofKind]) (by rw [hc]; cases neg <;> rfl) hs
  · rename_i hxa; rw [hxa] at hxv; simp only [AV.val] at hxv
    obtain ⟨_, _, hc, _⟩ := hxv
    exact fin (by simp [hc, ofKind]) (by rw [hc]; cases neg <;> rfl) hs
  · rename_i hxa; rw [hxa] at hxv; simp only [AV.val, AV.leaf] at hxv
    obtain ⟨_, _, _, _, _, hc⟩ := hxv
    simp at hc
    exact fin (by simp [hc, ofKind]) (by rw [hc]; cases neg <;> rfl) hs
  · rename_i xs hxa; rw [hxa] at hxv; simp only [AV.val, Tr.isAgg, Tr.rel] at hxv
    obtain ⟨base, cap, hc, _, _, h4⟩ := hxv
    refine sl rfl (by simpa using hc) ?_ _ (by cases xs <;> rfl) hs
    rintro hn rfl
    rcases h4 with rfl | ⟨_, _, _, h, _⟩
    · exact hn rfl
    · cases h
  · rename_i xs hxa; rw [hxa] at hxv; simp only [AV.val, AV.leaf] at hxv
    obtain ⟨base, cap, hc, _, h4⟩ := hxv
    refine sl rfl (by simpa using hc) ?_ _ (by cases xs <;> rfl) hs
    rintro hn rfl
    rcases h4 with rfl | ⟨_, _, _, h, _⟩
    · exact hn rfl
    · cases h
  · rename_i b o' p off len cap hxa; rw [hxa] at hxv; simp only [AV.val, AV.leaf] at hxv
    rcases hxv with ⟨_, _, _, _, rfl, _, base, hc⟩ | ⟨_, _, _, _, base, c, _, hc, hle, _, _, hb⟩
    · exact sl rfl (by simpa using hc) (by simp) _ rfl hs
    · refine sl rfl (by simpa using hc) ?_ _ rfl hs
      rintro hn rfl
      rcases hb with hb | hb
      · omega
      · cases hb
  · exact hs.elim
end Stk
