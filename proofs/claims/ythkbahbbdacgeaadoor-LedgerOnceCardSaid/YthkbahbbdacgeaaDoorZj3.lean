/- Several texts of this claim, joined into one file. -/
import Derived.Test.YthkbahbbdacgeaaDoorZj2
import Derived.Laws.Wrap64
section
/- The framework, part 6: the instructions, one by one. -/
namespace Stk
open Go

/-- What an operation comes to. -/
def Out (X : Cx) (e : Env) (H : Hp) (w : World) (Q : Ex → Fr → Hp → Prop) (k : AV → Hp → T) (r : Result Next) : Prop :=
  ∃ v c e' H' w', (r = .ok (.value c) w' ∨ (r = .ok .skip w' ∧ c = undef)) ∧ AV.val e' v c ∧ Step X.G e H w e' H' w' ∧ sat X Q (k v H')

/-- The same, of an operation that leaves everything as it is. -/
def Out0 (X : Cx) (e : Env) (H : Hp) (w : World) (Q : Ex → Fr → Hp → Prop) (k : AV → Hp → T) (r : Result Next) : Prop :=
  ∃ v c, (r = .ok (.value c) w ∨ (r = .ok .skip w ∧ c = undef)) ∧ AV.val e v c ∧ sat X Q (k v H)

def OpS0 (X : Cx) (op : Op) (i : I) : Prop :=
  ∀ (o : Oper), o.op = op → ∀ e H w fr a Q k, Rel X.G e H w → FrR X.N e fr a → sat X Q (opT fr H i k) → Out0 X e H w Q k ((execOp a.eval o).run X.P w)

def OpS (X : Cx) (op : Op) (i : I) : Prop :=
  ∀ (o : Oper), o.op = op → ∀ e H w fr a Q k, Rel X.G e H w → FrR X.N e fr a → sat X Q (opT fr H i k) → Out X e H w Q k ((execOp a.eval o).run X.P w)

variable {X : Cx} {Q : Ex → Fr → Hp → Prop} {e : Env} {H : Hp} {w : World}

theorem run_v {P : Program} {w w' : World} {s : Sem Value} {c : Value} (h : s.run P w = .ok c w') : (do pure (Next.value (← s)) : Sem Next).run P w = .ok (.value c) w' := by
  simp [h, Result.andThen]
theorem run_u {P : Program} {w w' : World} {s : Sem Unit} (h : s.run P w = .ok () w') : (do s; pure Next.skip : Sem Next).run P w = .ok .skip w' := by
  simp [h, Result.andThen]

theorem OpS0.toS {op : Op} {i : I} (h : OpS0 X op i) : OpS X op i := by
  intro o ho e H w fr a Q k hr hf hs
  obtain ⟨v, c, h1, h2, h3⟩ := h o ho e H w fr a Q k hr hf hs
  exact ⟨v, c, e, H, w, h1, h2, Step.refl hr, h3⟩
theorem Out.same (_ : Rel X.G e H w) {k : AV → Hp → T} {v : AV} {c : Value} (hv : AV.val e v c) (h : sat X Q (k v H)) : Out0 X e H w Q k (.ok (.value c) w) :=
  ⟨v, c, .inl rfl, hv, h⟩

theorem slRel_virt {b : Nat} {base : Option Addr} (h : e.β b = .virt) : slRel e b 0 [] 0 0 none [.slice base 0 0] := .inl ⟨h, rfl, rfl, rfl, rfl, rfl, base, rfl⟩
theorem nil_rel {m : Nat → Option (List Value)} {esz : Nat} {cs : List Value} (h : Tr.rel m (.sl true esz []) cs) : ∃ base, cs = [.slice base 0 0] := by
  simp only [Tr.rel] at h
  obtain ⟨base, cap, rfl, hf, _⟩ := h
  exact ⟨base, by rw [hf trivial]; rfl⟩

/-- A new empty slice of the own under a nil one or one without room. -/
theorem virt_sound (hr : Rel X.G e H w) {v : AV} {cs : List Value} (hv : AV.rel e v cs) {k : AV → Hp → T} (h : sat X Q (virtK H v k)) :
    ∃ v' e' H', sat X Q (k v' H') ∧ Step X.G e H w e' H' w ∧ AV.rel e' v' cs := by
  unfold virtK at h
  split at h
  · rename_i esz
    rw [newK_eq] at h
    simp only [AV.rel, AV.leaf] at hv
    obtain ⟨base, rfl⟩ := nil_rel hv
    have hst := Step.virt hr esz
    refine ⟨_, _, _, h, hst, ?_⟩
    simp only [AV.rel, AV.leaf]
    exact slRel_virt (e.bind_same _ _)
  · exact ⟨_, e, H, h, Step.refl hr, hv⟩

theorem AV.rels_replace {e e' : Env} : ∀ {vs : List AV} {cs : List Value}, AV.rels e vs cs → Env.To id e e' → ∀ {f : Nat} {x y : AV}, vs[f]? = some x → (∀ c, AV.rel e x c → AV.rel e' y c) → AV.rels e' (vs.set f y) cs
  | [], _, _, _, f, x, y, hx, _ => by simp at hx
  | v :: vs, cs, h, ht, f, x, y, hx, hxy => by
    simp only [AV.rels] at h
    obtain ⟨a, b, rfl, h1, h2⟩ := h
    cases f with
    | zero => simp at hx; subst hx; simp only [List.set_cons_zero, AV.rels]; exact ⟨a, b, rfl, hxy a h1, AV.rels_to ht h2⟩
    | succ f => simp only [List.set_cons_succ, AV.rels]; exact ⟨a, b, rfl, AV.rel_to ht h1, AV.rels_replace h2 ht (by simpa using hx) hxy⟩

theorem virts_sound : ∀ {vs : List Nat} {v : AV} {H : Hp} {e : Env} {cs : List Value} {k : AV → Hp → T}, Rel X.G e H w → AV.rel e v cs → sat X Q (virtsK vs v H k) →
    ∃ v' e' H', sat X Q (k v' H') ∧ Step X.G e H w e' H' w ∧ AV.rel e' v' cs ∧ (v.isAgg = true → v'.isAgg = true) ∧ (vs = [] → v' = v)
  | [], v, H, e, cs, k, hr, hv, h => ⟨v, e, H, h, Step.refl hr, hv, id, fun _ => rfl⟩
  | f :: vs, v, H, e, cs, k, hr, hv, h => by
    simp only [virtsK] at h
    obtain ⟨fs, hfs, h⟩ := sat_fieldsK h
    obtain ⟨x, hx, h⟩ := sat_nthK h
    rw [fieldsA_rel hfs] at hv
    obtain ⟨mid, hs, hxr, _⟩ := AV.rels_get hv hx
    -- the one field
    unfold virtK at h
    split at h
    · rename_i esz
      rw [newK_eq] at h
      obtain ⟨_, h⟩ := sat_setK h
      have hst := Step.virt hr esz
      have hrel : AV.rel (e.bind H.length .virt) (.agg (fs.set f (.sl H.length 0 [] 0 0 none))) cs := by
        simp only [AV.rel]
        refine AV.rels_replace hv (hst.to hr) hx fun c hc => ?_
        simp only [AV.rel, AV.leaf] at hc ⊢
        obtain ⟨base, rfl⟩ := nil_rel hc
        exact slRel_virt (e.bind_same _ _)
      obtain ⟨v', e', H', h, s, r, hi, _⟩ := virts_sound hst.rel hrel h
      exact ⟨v', e', H', h, hst.trans s, r, fun _ => hi rfl, fun h => by cases h⟩
    · obtain ⟨_, h⟩ := sat_setK h
      have hrel : AV.rel e (.agg (fs.set f x)) cs := by
        have : fs.set f x = fs := by
          apply List.ext_getElem?
          intro j
          rw [List.getElem?_set]
          by_cases hj : f = j
          · subst hj; rw [if_pos rfl, if_pos (lt_of_get hx), hx]
          · rw [if_neg hj]
        rw [this]; simpa [AV.rel] using hv
      obtain ⟨v', e', H', h, s, r, hi, _⟩ := virts_sound hr hrel h
      exact ⟨v', e', H', h, s, r, fun _ => hi rfl, fun h => by cases h⟩

theorem virts_val (hr : Rel X.G e H w) {v : AV} {c : Value} (hv : AV.val e v c) (hsol : v.solid = true) {vs : List Nat} {k : AV → Hp → T} (h : sat X Q (virtsK vs v H k)) :
    ∃ v' e' H', sat X Q (k v' H') ∧ Step X.G e H w e' H' w ∧ AV.val e' v' c ∧ AV.rel e' v' c.cells.toList := by
  have hvr := solid_rel hv hsol
  cases vs with
  | nil => exact ⟨v, e, H, h, Step.refl hr, hv, hvr⟩
  | cons f fs =>
    have hag : v.isAgg = true := by
      simp only [virtsK] at h
      obtain ⟨fl, hfl, _⟩ := sat_fieldsK h
      unfold fieldsA at hfl
      split at hfl <;> first | rfl | cases hfl
    have hc : ∃ cs, c = .agg cs := by
      rcases AV.val_of_rel hvr with _ | ⟨h1, _⟩
      · cases v with
        | agg xs => simp only [AV.val] at hv; obtain ⟨cs, rfl, _⟩ := hv; exact ⟨cs, rfl⟩
        | t x => simp only [AV.isAgg] at hag; simp only [AV.val, hag] at hv; obtain ⟨cs, rfl, _⟩ := hv; exact ⟨cs, rfl⟩
        | _ => simp [AV.isAgg] at hag
      · rw [hag] at h1; cases h1
    obtain ⟨cs, rfl⟩ := hc
    obtain ⟨v', e', H', h, s, r, hi, _⟩ := virts_sound hr hvr h
    refine ⟨v', e', H', h, s, ?_, r⟩
    rcases AV.val_of_rel r with ⟨_, h2⟩ | ⟨h1, _⟩
    · simpa [Value.cells] using h2
    · rw [hi hag] at h1; cases h1

/-- A new variable. -/
theorem newvar_sound (hr : Rel X.G e H w) {v : AV} {cs : Array Value} (hv : AV.rel e v cs.toList) {k : AV → Hp → T} (h : sat X Q (newK (.var v) H fun b H' => k (.ptr b 0 0 [] none) H')) {t : TypeId} :
    ∃ e' H', AV.val e' (.ptr H.length 0 0 [] none) (.pointer (some ⟨w.heap.size, 0, none⟩)) ∧ Step X.G e H w e' H' (w.alloc (.cells cs t)) ∧ sat X Q (k (.ptr H.length 0 0 [] none) H') := by
  rw [newK_eq] at h
  have hst := Step.new (o := .var v) (ob := .cells cs t) (esz := 1) (cap := 0) (n := none) hr ⟨rfl, rfl, cs, t, (0, 0), rfl, hv, ⟨Nat.le_refl _, fun i _ => by simp⟩⟩
  refine ⟨_, _, ?_, hst, h⟩
  simp only [AV.val, AV.leaf]
  exact ⟨_, _, _, _, e.bind_same _ _, by simp⟩

theorem run_newVar {P : Program} (t : TypeId) (v : Value) (w : World) : (newVar t v).run P w = .ok ⟨w.heap.size, 0, none⟩ (w.alloc (.cells v.cells t)) := by
  simp [newVar, newRow, newObj, bind, Sem.bind, Sem.run, pure]

/-! ### The first instructions -/
theorem op_mv {x : Opd} {y : Operand} (h : chkOpd X.G x y = true) {op : Op} (hop : op = .move y ∨ op = .assign y) : OpS0 X op (.mv x) := by
  intro o ho e H w fr a Q k hr hf hs
  have hv := chkOpd_val hr hf h
  simp only [opT, evK_eq] at hs
  have : (execOp a.eval o).run X.P w = .ok (.value (a.eval y)) w := by
    rcases hop with rfl | rfl <;> simp [execOp, ho]
  rw [this]
  exact Out.same hr hv hs

theorem op_mvf {x : Opd} {y : Operand} (h : chkOpd X.G x y = true) {op : Op} (hop : op = .move y ∨ op = .assign y) : OpS X op (.mvf x) := by
  intro o ho e H w fr a Q k hr hf hs
  have hv := chkOpd_val hr hf h
  simp only [opT, evK_eq] at hs
  have : (execOp a.eval o).run X.P w = .ok (.value (a.eval y)) w := by
    rcases hop with rfl | rfl <;> simp [execOp, ho]
  rw [this]
  split at hs
  · rename_i z hz
    rw [hz] at hv
    exact ⟨_, _, _, _, _, .inl rfl, hv, Step.refl hr, hs⟩
  · rename_i b o' p off len cap hz
    rw [hz] at hv
    simp only [AV.val] at hv
    obtain ⟨z, e', H', h1, h2, h3⟩ := frz_sound hr (v := .sl b o' p off len cap) (c := [a.eval y]) (by simpa only [AV.rel] using hv) hs
    split at h1
    · exact h1.elim
    · rename_i hz1
      exact ⟨_, _, _, _, _, .inl rfl, by simp only [AV.val, hz1]; exact h3, h2, h1⟩
  · exact hs.elim

theorem op_nsl {esz : Nat} {op : Op} (hop : op = .move (.const (.slice none 0 0)) ∨ op = .assign (.const (.slice none 0 0))) : OpS X op (.nsl esz) := by
  intro o ho e H w fr a Q k hr hf hs
  simp only [opT, newK_eq] at hs
  have : (execOp a.eval o).run X.P w = .ok (.value (.slice none 0 0)) w := by
    rcases hop with rfl | rfl <;> simp [execOp, ho, Act.eval]
  rw [this]
  refine ⟨_, _, _, _, _, .inl rfl, ?_, Step.virt hr esz, hs⟩
  simp only [AV.val, AV.leaf]
  exact slRel_virt (e.bind_same _ _)

theorem val_bool {b : Bool} {c : Value} (h : AV.val e (.t (.bool b)) c) : c = .bool b := by
  simp only [AV.val, Tr.isAgg, Tr.rel] at h; simpa using h
theorem val_int {j : IntKind} {n : Int} {c : Value} (h : AV.val e (.t (.int j n)) c) : c = .int j n := by
  simp only [AV.val, Tr.isAgg, Tr.rel] at h; simpa using h
theorem val_str {s : ByteArray} {c : Value} (h : AV.val e (.t (.str s)) c) : c = .string s := by
  simp only [AV.val, Tr.isAgg, Tr.rel] at h; simpa using h
theorem mk_bool (e : Env) (b : Bool) : AV.val e (.t (.bool b)) (.bool b) := by simp [AV.val, Tr.isAgg, Tr.rel]
theorem mk_int (e : Env) (j : IntKind) (n : Int) : AV.val e (.t (.int j n)) (.int j n) := by simp [AV.val, Tr.isAgg, Tr.rel]
theorem mk_str (e : Env) (s : ByteArray) : AV.val e (.t (.str s)) (.string s) := by simp [AV.val, Tr.isAgg, Tr.rel]

theorem op_pick {c x y : Opd} {c' x' y' : Operand} (hc : chkOpd X.G c c' = true) (hx : chkOpd X.G x x' = true) (hy : chkOpd X.G y y' = true) : OpS0 X (.pick c' x' y') (.pick c x y) := by
  intro o ho e H w fr a Q k hr hf hs
  have hcv := chkOpd_val hr hf hc
  have hxv := chkOpd_val hr hf hx
  have hyv := chkOpd_val hr hf hy
  simp only [opT, evK_eq] at hs
  split at hs
  · rename_i b hb
    rw [hb] at hcv
    have hcb := val_bool hcv
    simp only [sat] at hs
    cases b with
    | true =>
      have : (execOp a.eval o).run X.P w = .ok (.value (a.eval x')) w := by simp [execOp, ho, hcb, asBool]
      rw [this]; exact Out.same hr hxv (hs.1 rfl)
    | false =>
      have : (execOp a.eval o).run X.P w = .ok (.value (a.eval y')) w := by simp [execOp, ho, hcb, asBool]
      rw [this]; exact Out.same hr hyv (hs.2 rfl)
  · exact hs.elim

def zeroOK (P : Program) (t : TypeId) (z : Tr) : Bool :=
  match P.info? t with
  | some i => match i.zero with
    | some v => (v.cells.size == i.size) && (chkT z v.cells.toList matches some []) && (z.isAgg == (v matches .agg _))
    | none => false
  | none => false
theorem zeroOK_run {t : TypeId} {z : Tr} (h : zeroOK X.P t z = true) (m : Nat → Option (List Value)) : ∃ v i, X.P.info? t = some i ∧ i.zero = some v ∧ v.cells.size = i.size ∧ Tr.rel m z v.cells.toList ∧ (∀ w, (zeroValue t).run X.P w = .ok v w) := by
  unfold zeroOK at h
  split at h
  · rename_i i hi
    split at h
    · rename_i v hv
      simp only [Bool.and_eq_true, beq_iff_eq] at h
      obtain ⟨⟨h1, h2⟩, _⟩ := h
      split at h2
      · rename_i hc
        obtain ⟨a, ha, hr⟩ := chkT_rel (m := m) hc
        rw [List.append_nil] at ha
        exact ⟨v, i, hi, hv, h1, by rw [ha]; exact hr, fun w => by simp [zeroValue, typeInfo, program, bind, Sem.bind, Sem.run, hi, pure, hv]⟩
      · simp at h2
    · cases h
  · cases h

theorem op_alloc {t : TypeId} {z : Tr} {vs : List Nat} (h : zeroOK X.P t z = true) : OpS X (.alloc t) (.alloc z vs) := by
  intro o ho e H w fr a Q k hr hf hs
  obtain ⟨v, i, _, _, _, hz, hrun⟩ := zeroOK_run h e.ro
  simp only [opT] at hs
  obtain ⟨v', e1, H1, hs, s1, hr1, _⟩ := virts_sound (cs := v.cells.toList) hr (by simp only [AV.rel, AV.leaf]; exact hz) hs
  obtain ⟨e2, H2, hv2, s2, hs2⟩ := newvar_sound s1.rel hr1 hs (t := t)
  have : (execOp a.eval o).run X.P w = .ok (.value (.pointer (some ⟨w.heap.size, 0, none⟩))) (w.alloc (.cells v.cells t)) := by
    simp only [execOp, ho]
    refine run_v ?_
    simp [Instr.alloc, Sem.run_bind, hrun, Result.andThen, run_newVar]
  rw [this]
  exact ⟨_, _, _, _, _, .inl rfl, hv2, s1.trans s2, hs2⟩

theorem op_box {x : Opd} {x' : Operand} {t : TypeId} {vs : List Nat} (hx : chkOpd X.G x x' = true) : OpS X (.box t x') (.box x vs) := by
  intro o ho e H w fr a Q k hr hf hs
  have hxv := chkOpd_val hr hf hx
  simp only [opT, evK_eq] at hs
  obtain ⟨hsol, hs⟩ := sat_solid hs
  have hxr := solid_rel hxv hsol
  obtain ⟨v', e1, H1, hs, s1, hr1, _⟩ := virts_sound hr hxr hs
  obtain ⟨e2, H2, hv2, s2, hs2⟩ := newvar_sound s1.rel hr1 hs (t := t)
  have : (execOp a.eval o).run X.P w = .ok (.value (.pointer (some ⟨w.heap.size, 0, none⟩))) (w.alloc (.cells (a.eval x').cells t)) := by
    simp only [execOp, ho]
    refine run_v ?_
    simp [Instr.box, Result.andThen, run_newVar]
  rw [this]
  exact ⟨_, _, _, _, _, .inl rfl, hv2, s1.trans s2, hs2⟩

theorem op_load {x : Opd} {x' : Operand} {t : TypeId} {agg : Bool} {n : Nat} (hx : chkOpd X.G x x' = true) (ht : tyOK X.P t agg n = true) : OpS0 X (.load t x') (.load agg n x) := by
  intro o ho e H w fr a Q k hr hf hs
  have hxv := chkOpd_val hr hf hx
  simp only [opT, evK_eq] at hs
  obtain ⟨v, cv, hs, hv, ad, hc, hrun⟩ := load_sound hr hxv hs
  have : (execOp a.eval o).run X.P w = .ok (.value cv) w := by
    simp only [execOp, ho]
    refine run_v ?_
    simp only [Instr.loadAt, hc, Instr.sureAddr, pure_bind]
    exact hrun X.P t ht
  rw [this]
  exact Out.same hr hv hs

theorem op_store {x y : Opd} {x' y' : Operand} {t : TypeId} {n : Nat} {vs : List Nat} (hx : chkOpd X.G x x' = true) (hy : chkOpd X.G y y' = true) (ht : (X.P.info? t).map (·.size) = some n) : OpS X (.store t x' y') (.store n x y vs) := by
  intro o ho e H w fr a Q k hr hf hs
  have hxv := chkOpd_val hr hf hx
  have hyv := chkOpd_val hr hf hy
  simp only [opT, evK_eq] at hs
  obtain ⟨hsol, hs⟩ := sat_solid hs
  obtain ⟨v', e1, H1, hs, s1, hv', _⟩ := virts_val hr hyv hsol hs
  obtain ⟨e2, H2, w2, hs2, s2, ad, hc, hrun⟩ := store_sound s1.rel (AV.val_to (s1.to hr) hxv) hv' hs
  have : (execOp a.eval o).run X.P w = .ok .skip w2 := by
    simp only [execOp, ho]
    refine run_u ?_
    simp only [Instr.storeAt, hc, Instr.sureAddr, pure_bind]
    exact hrun X.P t ht
  rw [this]
  exact ⟨_, _, _, _, _, .inr ⟨rfl, rfl⟩, by simp [AV.val], s1.trans s2, hs2⟩

theorem op_storeN {x : Opd} {x' : Operand} {t : TypeId} {n esz : Nat} (hx : chkOpd X.G x x' = true) (ht : (X.P.info? t).map (·.size) = some n) : OpS X (.store t x' (.const (.slice none 0 0))) (.storeN n esz x) := by
  intro o ho e H w fr a Q k hr hf hs
  have hxv := chkOpd_val hr hf hx
  simp only [opT, evK_eq, newK_eq] at hs
  have s1 := Step.virt hr esz
  have hv : AV.val (e.bind H.length .virt) (.sl H.length 0 [] 0 0 none) (.slice none 0 0) := by
    simp only [AV.val, AV.leaf]
    exact slRel_virt (e.bind_same _ _)
  obtain ⟨e2, H2, w2, hs2, s2, ad, hc, hrun⟩ := store_sound s1.rel (AV.val_to (s1.to hr) hxv) hv hs
  have : (execOp a.eval o).run X.P w = .ok .skip w2 := by
    simp only [execOp, ho]
    refine run_u ?_
    simp only [Instr.storeAt, hc, Instr.sureAddr, pure_bind]
    exact hrun X.P t ht
  rw [this]
  exact ⟨_, _, _, _, _, .inr ⟨rfl, rfl⟩, by simp [AV.val], s1.trans s2, hs2⟩

theorem op_nilck {x : Opd} {x' : Operand} (hx : chkOpd X.G x x' = true) : OpS0 X (.nilCheck x') (.nilck x) := by
  intro o ho e H w fr a Q k hr hf hs
  have hxv := chkOpd_val hr hf hx
  simp only [opT, evK_eq] at hs
  have key : (∃ ad, a.eval x' = .pointer (some ad)) ∨ (∃ f vs ws, a.eval x' = .func (.func f) vs ws) → (execOp a.eval o).run X.P w = .ok (.value (a.eval x')) w := by
    rintro (⟨ad, h⟩ | ⟨f, vs, ws, h⟩) <;> simp [execOp, ho, h]
  split at hs
  · rename_i b i o' p ix hv
    rw [hv] at hxv
    have hxv' := hxv
    simp only [AV.val, AV.leaf] at hxv'
    obtain ⟨_, _, _, _, _, hc⟩ := hxv'
    rw [key (.inl ⟨_, by simpa using hc⟩)]
    exact Out.same hr hxv hs
  · rename_i y hv
    rw [hv] at hxv
    have hxv' := hxv
    simp only [AV.val, AV.leaf] at hxv'
    obtain ⟨_, _, _, hc, _⟩ := hxv'
    rw [key (.inl ⟨_, by simpa using hc⟩)]
    exact Out.same hr hxv hs
  · rename_i f ys zs hv
    rw [hv] at hxv
    have hxv' := hxv
    simp only [AV.val] at hxv'
    obtain ⟨_, _, hc, _⟩ := hxv'
    rw [key (.inr ⟨_, _, _, hc⟩)]
    exact Out.same hr hxv hs
  · exact hs.elim

theorem execOp_bin {o : Oper} {op : BinOp} {t u : TypeId} {x y : Operand} (ho : o.op = .binOp op t x y u) (ev : Operand → Value) (w : World) {c : Value}
    (hg : (eqGuard op t x y (ev x) (ev y)).run X.P w = .ok () w) (h : (binOp op t (ev x) (ev y)).run X.P w = .ok c w) : (execOp ev o).run X.P w = .ok (.value c) w := by
  simp only [execOp, ho]
  refine run_v ?_
  simp [Sem.run_bind, hg, h, Result.andThen]

theorem eqGuard_int {op : BinOp} {t : TypeId} {x y : Operand} {P : Program} {j k : IntKind} {m n : Int} {w : World} : (eqGuard op t x y (.int j m) (.int k n)).run P w = .ok () w := by
  unfold eqGuard; split <;> simp
theorem eqGuard_str {op : BinOp} {t : TypeId} {x y : Operand} {P : Program} {s u : ByteArray} {w : World} : (eqGuard op t x y (.string s) (.string u)).run P w = .ok () w := by
  unfold eqGuard; split <;> simp
theorem eqGuard_bool {op : BinOp} {t : TypeId} {x y : Operand} {P : Program} {s u : Bool} {w : World} : (eqGuard op t x y (.bool s) (.bool u)).run P w = .ok () w := by
  unfold eqGuard; split <;> simp

theorem op_arith {op : BinOp} {t u : TypeId} {x y : Opd} {x' y' : Operand} (hx : chkOpd X.G x x' = true) (hy : chkOpd X.G y y' = true) : OpS0 X (.binOp op t x' y' u) (.arith op x y) := by
  intro o ho e H w fr a Q k hr hf hs
  have hxv := chkOpd_val hr hf hx
  have hyv := chkOpd_val hr hf hy
  simp only [opT, evK_eq] at hs
  unfold arithK at hs
  split at hs
  · rename_i j m j' n hxa hya
    rw [hxa] at hxv; rw [hya] at hyv
    have ex := val_int hxv
    have ey := val_int hyv
    have fin {c : Int} {kk : IntKind} (h : (binOp op t (.int j m) (.int j' n)).run X.P w = .ok (.int kk c) w) (hs : sat X Q (k (.t (.int kk c)) H)) : Out0 X e H w Q k ((execOp a.eval o).run X.P w) := by
      rw [execOp_bin ho a.eval w (c := .int kk c) (by rw [ex, ey]; exact eqGuard_int) (by rw [ex, ey]; exact h)]
      exact Out.same hr (mk_int _ _ _) hs
    split at hs
    · simp only [sat] at hs
      obtain ⟨h0, hs⟩ := hs
      have h0 := of_decide_eq_true h0
      refine fin (c := j.wrap (m * 2 ^ (min n.toNat j.bits))) (kk := j) ?_ hs
      simp [binOp, Op.shift, if_neg (by omega : ¬ n < 0)]
    · simp only [sat] at hs
      obtain ⟨h0, hs⟩ := hs
      have h0 := of_decide_eq_true h0
      refine fin (c := m.fdiv (2 ^ (min n.toNat j.bits))) (kk := j) ?_ hs
      simp [binOp, Op.shift, if_neg (by omega : ¬ n < 0)]
    · rename_i op' hne1 hne2
      split at hs
      · exact hs.elim
      · rename_i hk
        obtain rfl := kindEq_eq hk
        split at hs
        · exact fin (kk := j) (by simp [binOp, Op.intArith]) hs
        · exact fin (kk := j) (by simp [binOp, Op.intArith]) hs
        · exact fin (kk := j) (by simp [binOp, Op.intArith]) hs
        · simp only [sat] at hs
          obtain ⟨h0, hs⟩ := hs
          have h0 : n ≠ 0 := by simpa using h0
          exact fin (kk := j) (by simp [binOp, Op.intDiv, h0]) hs
        · simp only [sat] at hs
          obtain ⟨h0, hs⟩ := hs
          have h0 : n ≠ 0 := by simpa using h0
          exact fin (kk := j) (by simp [binOp, Op.intDiv, h0]) hs
        · exact fin (kk := j) (by simp [binOp, Op.intBits, bitsV]) hs
        · exact fin (kk := j) (by simp [binOp, Op.intBits, bitsV]) hs
        · exact fin (kk := j) (by simp [binOp, Op.intBits, bitsV]) hs
        · exact fin (kk := j) (by simp [binOp, Op.intBits, bitsV]) hs
        · exact hs.elim
  · rename_i s u' hxa hya
    rw [hxa] at hxv; rw [hya] at hyv
    have ex := val_str hxv
    have ey := val_str hyv
    split at hs
    · simp only [sat] at hs
      obtain ⟨h0, hs⟩ := hs
      have h0 := of_decide_eq_true h0
      rw [execOp_bin ho a.eval w (c := .string (s ++ u')) (by rw [ex, ey]; exact eqGuard_str) (by rw [ex, ey]; simp only [binOp, Op.stringOp]; rw [if_neg (by omega)]; rfl)]
      exact Out.same hr (mk_str _ _) hs
    · exact hs.elim
  · exact hs.elim

theorem op_cmp {op : BinOp} {t u : TypeId} {x y : Opd} {x' y' : Operand} (hx : chkOpd X.G x x' = true) (hy : chkOpd X.G y y' = true) : OpS0 X (.binOp op t x' y' u) (.cmp op x y) := by
  intro o ho e H w fr a Q k hr hf hs
  have hxv := chkOpd_val hr hf hx
  have hyv := chkOpd_val hr hf hy
  simp only [opT, evK_eq] at hs
  unfold cmpK at hs
  split at hs
  · rename_i j m j' n hxa hya
    rw [hxa] at hxv; rw [hya] at hyv
    have ex := val_int hxv
    have ey := val_int hyv
    have fin {c : Bool} (h : (binOp op t (.int j m) (.int j' n)).run X.P w = .ok (.bool c) w) (hs : sat X Q (k (.t (.bool c)) H)) : Out0 X e H w Q k ((execOp a.eval o).run X.P w) := by
      rw [execOp_bin ho a.eval w (c := .bool c) (by rw [ex, ey]; exact eqGuard_int) (by rw [ex, ey]; exact h)]
      exact Out.same hr (mk_bool _ _) hs
    split at hs
    · exact hs.elim
    · rename_i hk
      obtain rfl := kindEq_eq hk
      split at hs <;> first
        | exact hs.elim
        | exact fin (by simp [binOp, Op.intCmp]) hs
  · rename_i s u' hxa hya
    rw [hxa] at hxv; rw [hya] at hyv
    have ex := val_str hxv
    have ey := val_str hyv
    have fin {c : Bool} (h : (binOp op t (.string s) (.string u')).run X.P w = .ok (.bool c) w) (hs : sat X Q (k (.t (.bool c)) H)) : Out0 X e H w Q k ((execOp a.eval o).run X.P w) := by
      rw [execOp_bin ho a.eval w (c := .bool c) (by rw [ex, ey]; exact eqGuard_str) (by rw [ex, ey]; exact h)]
      exact Out.same hr (mk_bool _ _) hs
    split at hs <;> first
      | exact hs.elim
      | exact fin (by simp [binOp, Op.stringOp]) hs
  · exact hs.elim

theorem run_under {P : Program} {t : TypeId} {d : TypeDesc} (h : P.underlying t = some d) (w : World) : (underlying t).run P w = .ok d w := by
  simp [underlying, program, bind, Sem.bind, Sem.run, h, pure]

theorem equal_eq (t : TypeId) (x y : Value) : Op.equal t x y = Op.equalIn (9999 + 1) t x y := rfl
theorem run_equal_bool {P : Program} {t : TypeId} (h : P.underlying t = some .bool) (p q : Bool) (w : World) : (Op.equal t (.bool p) (.bool q)).run P w = .ok (p == q) w := by
  rw [equal_eq]
  generalize 9999 = d
  simp only [Op.equalIn, Sem.run_bind, run_under h, Result.andThen]
  rfl

theorem op_cmpb {op : BinOp} {neg : Bool} {t u : TypeId} {x y : Opd} {x' y' : Operand} (hx : chkOpd X.G x x' = true) (hy : chkOpd X.G y y' = true) (hop : op = if neg then .neq else .eql) (ht : X.P.underlying t = some .bool) :
    OpS0 X (.binOp op t x' y' u) (.cmpb neg x y) := by
  intro o ho e H w fr a Q k hr hf hs
  have hxv := chkOpd_val hr hf hx
  have hyv := chkOpd_val hr hf hy
  simp only [opT, evK_eq] at hs
  split at hs
  · rename_i p q hxa hya
    rw [hxa] at hxv; rw [hya] at hyv
    have ex := val_bool hxv
    have ey := val_bool hyv
    rw [execOp_bin ho a.eval w (c := .bool (nb neg (p == q))) (by rw [ex, ey]; exact eqGuard_bool) (by
      rw [ex, ey]; subst hop; cases neg <;> simp [binOp, run_equal_bool ht, Result.andThen, nb])]
    exact Out.same hr (mk_bool _ _) hs
  · exact hs.elim

theorem op_un {op : UnOp} {t : TypeId} {x : Opd} {x' : Operand} (hx : chkOpd X.G x x' = true) : OpS0 X (.unOp op t x') (.un op x) := by
  intro o ho e H w fr a Q k hr hf hs
  have hxv := chkOpd_val hr hf hx
  simp only [opT, evK_eq] at hs
  have fin {c : Value} {v : AV} (h : (Op.unary op (a.eval x')).run X.P w = .ok c w) (hv : AV.val e v c) (hs : sat X Q (k v H)) : Out0 X e H w Q k ((execOp a.eval o).run X.P w) := by
    have : (execOp a.eval o).run X.P w = .ok (.value c) w := by
      simp only [execOp, ho]; exact run_v h
    rw [this]; exact Out.same hr hv hs
  unfold unK at hs
  split at hs
  · rename_i b hxa
    rw [hxa] at hxv
    exact fin (by rw [val_bool hxv]; simp [Op.unary]) (mk_bool _ _) hs
  · rename_i j n hxa
    rw [hxa] at hxv
    exact fin (by rw [val_int hxv]; simp [Op.unary, Op.intArith]) (mk_int _ _ _) hs
  · rename_i j n hxa
    rw [hxa] at hxv
    exact fin (by rw [val_int hxv]; simp [Op.unary, Op.intBits, bitsV]) (mk_int _ _ _) hs
  · exact hs.elim

theorem op_toInt {s d : TypeId} {j : IntKind} {x : Opd} {x' : Operand} (hx : chkOpd X.G x x' = true) (h1 : (X.P.underlying s).isSome = true) (h2 : X.P.underlying d = some (.int j)) : OpS0 X (.convert s d x') (.toInt j x) := by
  intro o ho e H w fr a Q k hr hf hs
  have hxv := chkOpd_val hr hf hx
  simp only [opT, evK_eq] at hs
  split at hs
  · rename_i k' n hxa
    rw [hxa] at hxv
    obtain ⟨d1, hd1⟩ := Option.isSome_iff_exists.1 h1
    have : (execOp a.eval o).run X.P w = .ok (.value (.int j (j.wrap n))) w := by
      simp only [execOp, ho]
      refine run_v ?_
      rw [val_int hxv]
      simp only [convert, Sem.run_bind, run_under hd1, run_under h2, Result.andThen]
      cases d1 <;> simp [Conv.intToInt]
    rw [this]; exact Out.same hr (mk_int _ _ _) hs
  · exact hs.elim

def nkOK (kd : NK) : TypeDesc → Bool
  | .pointer _ => (kd matches .ptr)
  | .slice _ => (kd matches .sl)
  | .map _ _ => (kd matches .mp)
  | .func _ _ _ => (kd matches .fn)
  | .interface _ => (kd matches .ifc)
  | _ => false
def nilC : NK → Value
  | .ptr => .pointer none
  | .sl => .slice none 0 0
  | .mp => .map none
  | .fn => .nilFunc
  | .ifc => .nilIface
/-- Is a value nil? -/
def isNilV : Value → Bool
  | .pointer none | .slice none _ _ | .map none | .nilFunc | .nilIface => true
  | _ => false
def ofKind : NK → Value → Bool
  | .ptr, .pointer _ | .sl, .slice _ _ _ | .mp, .map _ | .fn, .nilFunc | .fn, .func _ _ _ | .ifc, .nilIface | .ifc, .iface _ _ => true
  | _, _ => false

theorem equal_nil {P : Program} {t : TypeId} {d : TypeDesc} {kd : NK} (h : P.underlying t = some d) (hk : nkOK kd d = true) {c : Value} (hc : ofKind kd c = true) (w : World) :
    (Op.equal t c (nilC kd)).run P w = .ok (isNilV c) w ∧ (Op.equal t (nilC kd) c).run P w = .ok (isNilV c) w := by
  rw [equal_eq, equal_eq]
  generalize 9999 = dd
  have ptr {q : TypeId} (r : Option Addr) (h : P.underlying t = some (.pointer q)) : (Op.equalIn (dd + 1) t (.pointer r) (.pointer none)).run P w = .ok (isNilV (.pointer r)) w ∧ (Op.equalIn (dd + 1) t (.pointer none) (.pointer r)).run P w = .ok (isNilV (.pointer r)) w := by
    simp only [Op.equalIn, Sem.run_bind, run_under h, Result.andThen]; cases r <;> exact ⟨rfl, rfl⟩
  have sl {q : TypeId} (r : Option Addr) (n m : Nat) (h : P.underlying t = some (.slice q)) : (Op.equalIn (dd + 1) t (.slice r n m) (.slice none 0 0)).run P w = .ok (isNilV (.slice r n m)) w ∧ (Op.equalIn (dd + 1) t (.slice none 0 0) (.slice r n m)).run P w = .ok (isNilV (.slice r n m)) w := by
    simp only [Op.equalIn, Sem.run_bind, run_under h, Result.andThen]; cases r <;> exact ⟨rfl, rfl⟩
  have mp {q u : TypeId} (r : Option Nat) (h : P.underlying t = some (.map q u)) : (Op.equalIn (dd + 1) t (.map r) (.map none)).run P w = .ok (isNilV (.map r)) w ∧ (Op.equalIn (dd + 1) t (.map none) (.map r)).run P w = .ok (isNilV (.map r)) w := by
    simp only [Op.equalIn, Sem.run_bind, run_under h, Result.andThen]; cases r <;> exact ⟨rfl, rfl⟩
  cases d <;> cases kd <;> simp [nkOK] at hk
  · cases c <;> simp [ofKind] at hc; exact ptr _ h
  · cases c <;> simp [ofKind] at hc; exact sl _ _ _ h
  · cases c <;> simp [ofKind] at hc; exact mp _ h
  · cases c <;> simp [ofKind] at hc <;> simp only [nilC, Op.equalIn, Sem.run_bind, run_under h, Result.andThen] <;> exact ⟨rfl, rfl⟩
  · cases c <;> simp [ofKind] at hc <;> simp only [nilC, Op.equalIn, Sem.run_bind, run_under h, Result.andThen] <;> exact ⟨rfl, rfl⟩

theorem op_isnil {op : BinOp} {neg : Bool} {t u : TypeId} {x : Opd} {x' y1 y2 : Operand} {kd : NK} {d : TypeDesc} (hx : chkOpd X.G x x' = true) (hop : op = if neg then .neq else .eql) (ht : X.P.underlying t = some d) (hk : nkOK kd d = true)
    (hy : (y1 = x' ∧ y2 = .const (nilC kd)) ∨ (y2 = x' ∧ y1 = .const (nilC kd))) : OpS0 X (.binOp op t y1 y2 u) (.isnil kd neg x) := by
  intro o ho e H w fr a Q k hr hf hs
  have hxv := chkOpd_val hr hf hx
  simp only [opT, evK_eq] at hs
  have main : ofKind kd (a.eval x') = true → (execOp a.eval o).run X.P w = .ok (.value (.bool (nb neg (isNilV (a.eval x'))))) w := by
    intro hc
    obtain ⟨e1, e2⟩ := equal_nil ht hk hc w
    have hg : (eqGuard op t y1 y2 (a.eval y1) (a.eval y2)).run X.P w = .ok () w := by
      have hn : ∀ z, a.eval (.const z) = z := fun z => rfl
      rcases hy with ⟨g1, g2⟩ | ⟨g1, g2⟩ <;> rw [g1, g2, hn] <;> unfold eqGuard <;> (subst hop; cases neg) <;> (cases kd <;> simp only [nilC]) <;> (cases hcc : a.eval x' <;> rw [hcc] at hc <;> simp only [ofKind, Bool.false_eq_true] at hc <;> simp)
    refine execOp_bin ho a.eval w hg ?_
    have hn : ∀ z, a.eval (.const z) = z := fun z => rfl
    rcases hy with ⟨g1, g2⟩ | ⟨g1, g2⟩ <;> rw [g1, g2, hn] <;> (subst hop; cases neg) <;> (cases kd <;> cases hcc : a.eval x' <;> rw [hcc] at hc e1 e2 <;> simp only [ofKind, Bool.false_eq_true] at hc) <;>
      simp only [nilC] at e1 e2 ⊢ <;> simp [binOp, nb, e1, e2, Result.andThen]
  have fin {b : Bool} (h1 : ofKind kd (a.eval x') = true) (h2 : nb neg (isNilV (a.eval x')) = b) (hs : sat X Q (k (.t (.bool b)) H)) : Out0 X e H w Q k ((execOp a.eval o).run X.P w) := by
    rw [main h1, h2]; exact Out.same hr (mk_bool _ _) hs
  have sl {base : Option Addr} {n c : Nat} (hkd : kd = .sl) (hc : a.eval x' = .slice base n c) (h0 : n ≠ 0 → base ≠ none) (b : Bool) (hb : b = (n == 0)) (hs2 : sat X Q (.br b (.any (k (.t (.bool true)) H) (k (.t (.bool false)) H)) (k (.t (.bool neg)) H))) :
      Out0 X e H w Q k ((execOp a.eval o).run X.P w) := by
    subst hkd
    by_cases hn : n = 0
    · obtain ⟨ht, hf⟩ := hs2.1 (by simp [hb, hn])
      cases hb1 : nb neg (isNilV (a.eval x')) with
      | true => exact fin (by simp [hc, ofKind]) hb1 ht
      | false => exact fin (by simp [hc, ofKind]) hb1 hf
    · refine fin (by simp [hc, ofKind]) ?_ (hs2.2 (by simp [hb, hn]))
      rw [hc]
      cases base with
      | none => exact absurd rfl (h0 hn)
      | some ad => cases neg <;> rfl
  unfold isnilK at hs
  split at hs
  · rename_i hxa; rw [hxa] at hxv; simp only [AV.val, Tr.isAgg, Tr.rel] at hxv
    exact fin (by simp at hxv; simp [hxv, ofKind]) (by simp at hxv; rw [hxv]; cases neg <;> rfl) hs
  · rename_i hxa; rw [hxa] at hxv; simp only [AV.val, Tr.isAgg, Tr.rel] at hxv
    exact fin (by simp at hxv; simp [hxv, ofKind]) (by simp at hxv; rw [hxv]; cases neg <;> rfl) hs
  · rename_i hxa; rw [hxa] at hxv; simp only [AV.val, Tr.isAgg, Tr.rel] at hxv
    exact fin (by simp at hxv; simp [hxv, ofKind]) (by simp at hxv; rw [hxv]; cases neg <;> rfl) hs
  · rename_i hxa; rw [hxa] at hxv; simp only [AV.val, Tr.isAgg, Tr.rel] at hxv
    exact fin (by simp at hxv; simp [hxv, ofKind]) (by simp at hxv; rw [hxv]; cases neg <;> rfl) hs
  · rename_i hxa; rw [hxa] at hxv; simp only [AV.val, AV.leaf] at hxv
    obtain ⟨_, _, _, _, _, hc⟩ := hxv
    simp at hc
    exact fin (by simp [hc, ofKind]) (by rw [hc]; cases neg <;> rfl) hs
  · rename_i hxa; rw [hxa] at hxv; simp only [AV.val, AV.leaf] at hxv
    obtain ⟨_, _, _, hc, _⟩ := hxv
    simp at hc
    exact fin (by simp [hc, ofKind]) (by rw [hc]; cases neg <;> rfl) hs
  · rename_i hxa; rw [hxa] at hxv; simp only [AV.val] at hxv
    obtain ⟨_, _, hc, _⟩ := hxv
    exact fin (by simp [hc, ofKind]) (by rw [hc]; cases neg <;> rfl) hs
  · rename_i hxa; rw [hxa] at hxv; simp only [AV.val, AV.leaf] at hxv
    obtain ⟨_, _, _, _, _, hc⟩ := hxv
    simp at hc
    exact fin (by simp [hc, ofKind]) (by rw [hc]; cases neg <;> rfl) hs
  · rename_i xs hxa; rw [hxa] at hxv; simp only [AV.val, Tr.isAgg, Tr.rel] at hxv
    obtain ⟨base, cap, hc, _, _, h4⟩ := hxv
    refine sl rfl (by simpa using hc) ?_ _ (by cases xs <;> rfl) hs
    rintro hn rfl
    rcases h4 with rfl | ⟨_, _, _, h, _⟩
    · exact hn rfl
    · cases h
  · rename_i xs hxa; rw [hxa] at hxv; simp only [AV.val, AV.leaf] at hxv
    obtain ⟨base, cap, hc, _, h4⟩ := hxv
    refine sl rfl (by simpa using hc) ?_ _ (by cases xs <;> rfl) hs
    rintro hn rfl
    rcases h4 with rfl | ⟨_, _, _, h, _⟩
    · exact hn rfl
    · cases h
  · rename_i b o' p off len cap hxa; rw [hxa] at hxv; simp only [AV.val, AV.leaf] at hxv
    rcases hxv with ⟨_, _, _, _, rfl, _, base, hc⟩ | ⟨_, _, _, _, base, c, _, hc, hle, _, _, hb⟩
    · exact sl rfl (by simpa using hc) (by simp) _ rfl hs
    · refine sl rfl (by simpa using hc) ?_ _ rfl hs
      rintro hn rfl
      rcases hb with hb | hb
      · omega
      · cases hb
  · exact hs.elim
end Stk
end

section
/- The framework, part 7: addresses, parts, cuts, lengths. -/
namespace Stk
open Go
variable {X : Cx} {Q : Ex → Fr → Hp → Prop} {e : Env} {H : Hp} {w : World}

def chkOpds (G : Gl) : List Opd → List Operand → Bool
  | [], [] => true
  | x :: xs, y :: ys => chkOpd G x y && chkOpds G xs ys
  | _, _ => false
theorem chkOpds_vals {fr : Fr} {a : Act} (hr : Rel X.G e H w) (hf : FrR X.N e fr a) : ∀ {xs : List Opd} {ys : List Operand}, chkOpds X.G xs ys = true → AV.vals e (xs.map (·.at fr)) (ys.map a.eval)
  | [], [], _ => by simp [AV.vals]
  | [], _ :: _, h => by simp [chkOpds] at h
  | _ :: _, [], h => by simp [chkOpds] at h
  | x :: xs, y :: ys, h => by
    simp only [chkOpds, Bool.and_eq_true] at h
    simp only [List.map_cons, AV.vals]
    exact ⟨_, _, rfl, chkOpd_val hr hf h.1, chkOpds_vals hr hf h.2⟩

theorem op_mkfn {f : FuncId} {xs ys : List Opd} {xs' ys' : Array Operand} (h1 : chkOpds X.G xs xs'.toList = true) (h2 : chkOpds X.G ys ys'.toList = true) : OpS0 X (.makeFunc (.func f) xs' ys') (.mkfn f xs ys) := by
  intro o ho e H w fr a Q k hr hf hs
  have hx := chkOpds_vals hr hf h1
  have hy := chkOpds_vals hr hf h2
  simp only [opT, evsK_eq] at hs
  have : (execOp a.eval o).run X.P w = .ok (.value (.func (.func f) (xs'.map a.eval) (ys'.map a.eval))) w := by
    simp only [execOp, ho]; exact run_v (by simp [Instr.makeFunc])
  rw [this]
  refine Out.same hr ?_ hs
  simp only [AV.val]
  exact ⟨_, _, rfl, by simpa using hx, by simpa using hy⟩

theorem op_mkmap {t : TypeId} : OpS X (.makeMap t none) .mkmap := by
  intro o ho e H w fr a Q k hr hf hs
  simp only [opT, newK_eq] at hs
  have : (execOp a.eval o).run X.P w = .ok (.value (.map (some w.heap.size))) (w.alloc (.map #[] 0)) := by
    simp only [execOp, ho]
    refine run_v ?_
    simp [Instr.makeMap, newObj, bind, Sem.bind, Sem.run, pure]
  rw [this]
  have hst := Step.new (o := .map []) (ob := .map #[] 0) (esz := 0) (cap := 0) (n := none) hr ⟨rfl, #[], 0, rfl, by simp [mapRel], by simp [Births]⟩
  refine ⟨_, _, _, _, _, .inl rfl, ?_, hst, hs⟩
  simp only [AV.val, AV.leaf]
  exact ⟨_, _, _, _, e.bind_same _ _, rfl⟩

theorem add_off (b o n : Nat) : (⟨b, o, none⟩ : Addr).add n = ⟨b, o + n, none⟩ := by unfold Addr.add; split <;> simp_all

/-- A struct's field: where it lies, its type. -/
def fldOf (P : Program) (s : TypeId) (f : Nat) : Option Field :=
  match P.underlying s with
  | some (.struct fs) => fs[f]?
  | _ => none
theorem fldOf_some {P : Program} {s : TypeId} {f : Nat} {fl : Field} (h : fldOf P s f = some fl) : ∃ fs, P.underlying s = some (.struct fs) ∧ fs[f]? = some fl := by
  unfold fldOf at h
  split at h
  · rename_i fs hu; exact ⟨fs, hu, h⟩
  · cases h
def szOf (P : Program) (t : TypeId) : Nat := ((P.info? t).map (·.size)).getD 0
theorem run_sizeOf {P : Program} {t : TypeId} {n : Nat} (h : (P.info? t).map (·.size) = some n) (w : World) : (Go.sizeOf t).run P w = .ok n w := by
  cases hi : P.info? t with
  | none => rw [hi] at h; cases h
  | some i => rw [hi] at h; simp at h; simp [Go.sizeOf, typeInfo, program, bind, Sem.bind, Sem.run, hi, pure, h]

theorem op_fa {s : TypeId} {f off n : Nat} {x : Opd} {x' : Operand} {fl : Field} (hx : chkOpd X.G x x' = true) (hfl : fldOf X.P s f = some fl) (hoff : fl.offset = off) (hn : (X.P.info? fl.type).map (·.size) = some (n + 1)) :
    OpS0 X (.fieldAddr s x' f) (.fa off f x) := by
  intro o ho e H w fr a Q k hr hf hs
  have hxv := chkOpd_val hr hf hx
  simp only [opT, evK_eq] at hs
  obtain ⟨fs, hu, hget⟩ := fldOf_some hfl
  have run (b i : Nat) (hc : a.eval x' = .pointer (some ⟨b, i, none⟩)) : (execOp a.eval o).run X.P w = .ok (.value (.pointer (some ⟨b, i + off, none⟩))) w := by
    simp only [execOp, ho]
    refine run_v ?_
    simp only [Instr.fieldAt, Sem.run_bind, run_under hu, Result.andThen, hget, hc, Instr.sureAddr]
    simp [fieldPlace, run_sizeOf hn, Result.andThen, add_off, hoff]
  unfold faK at hs
  split at hs
  · rename_i b i o' p hxa
    rw [hxa] at hxv
    rw [snocK_eq] at hs
    simp only [AV.val, AV.leaf] at hxv
    obtain ⟨blk, esz, rc, nn, hβ, hc⟩ := hxv
    have hc : a.eval x' = .pointer (some ⟨blk, i * esz + o', none⟩) := by simpa using hc
    rw [run _ _ hc]
    refine Out.same hr ?_ hs
    simp only [AV.val, AV.leaf]
    exact ⟨blk, esz, rc, nn, hβ, by simp [Nat.add_assoc]⟩
  · rename_i xs hxa
    rw [hxa] at hxv
    simp only [AV.val, AV.leaf] at hxv
    obtain ⟨ad, mem, mid, hc, hsp, hm, hsub, hrel⟩ := hxv
    obtain ⟨y, d, hp, hs⟩ := sat_getT hs
    simp only [Nat.zero_add] at hs
    obtain ⟨my, hsy, hry, _⟩ := path_sound (y := .nilp) hp hrel
    split at hs
    · rename_i hd
      have hd := beq_eq hd
      have hc : a.eval x' = .pointer (some ⟨ad.block, ad.off, none⟩) := by rw [← addr_eta hsp]; simpa using hc
      rw [run _ _ hc, ← hd]
      refine Out.same hr ?_ hs
      simp only [AV.val, AV.leaf]
      exact ⟨_, mem, my, rfl, rfl, hm, hsub.trans hsy, hry⟩
    · exact hs.elim
  · exact hs.elim

/-- An element of an array at a fixed place. -/
theorem op_faC {t el : TypeId} {f off n esz : Nat} {j : IntKind} {m : Int} {x : Opd} {x' : Operand} (hx : chkOpd X.G x x' = true) (ht : X.P.underlying t = some (.array n el)) (hsz : (X.P.info? el).map (·.size) = some esz) (h0 : 0 ≤ m) (h1 : m < n) (hoff : m.toNat * esz = off) :
    OpS0 X (.indexAddr t x' (.const (.int j m))) (.fa off f x) := by
  intro o ho e H w fr a Q k hr hf hs
  have hxv := chkOpd_val hr hf hx
  simp only [opT, evK_eq] at hs
  have run (b i : Nat) (hc : a.eval x' = .pointer (some ⟨b, i, none⟩)) : (execOp a.eval o).run X.P w = .ok (.value (.pointer (some ⟨b, i + off, none⟩))) w := by
    simp only [execOp, ho]
    refine run_v ?_
    rw [hc]
    simp only [Act.eval, Instr.indexAt, asIntOf, Sem.run_bind, Sem.run_pure, Result.andThen, run_under ht, Instr.sureAddr]
    simp only [h0, h1, and_self, if_true, Sem.run_bind, run_sizeOf hsz, Result.andThen, hoff, ← add_off]
    rfl
  unfold faK at hs
  split at hs
  · rename_i b i o' p hxa
    rw [hxa] at hxv
    rw [snocK_eq] at hs
    simp only [AV.val, AV.leaf] at hxv
    obtain ⟨blk, esz, rc, nn, hβ, hc⟩ := hxv
    have hc : a.eval x' = .pointer (some ⟨blk, i * esz + o', none⟩) := by simpa using hc
    rw [run _ _ hc]
    refine Out.same hr ?_ hs
    simp only [AV.val, AV.leaf]
    exact ⟨blk, esz, rc, nn, hβ, by simp [Nat.add_assoc]⟩
  · rename_i xs hxa
    rw [hxa] at hxv
    simp only [AV.val, AV.leaf] at hxv
    obtain ⟨ad, mem, mid, hc, hsp, hm, hsub, hrel⟩ := hxv
    obtain ⟨y, d, hp, hs⟩ := sat_getT hs
    simp only [Nat.zero_add] at hs
    obtain ⟨my, hsy, hry, _⟩ := path_sound (y := .nilp) hp hrel
    split at hs
    · rename_i hd
      have hd := beq_eq hd
      have hc : a.eval x' = .pointer (some ⟨ad.block, ad.off, none⟩) := by rw [← addr_eta hsp]; simpa using hc
      rw [run _ _ hc, ← hd]
      refine Out.same hr ?_ hs
      simp only [AV.val, AV.leaf]
      exact ⟨_, mem, my, rfl, rfl, hm, hsub.trans hsy, hry⟩
    · exact hs.elim
  · exact hs.elim

theorem sat_t {b : Bool} {K : T} {s : String} (h : sat X Q (match b with
    | true => K
    | false => .stuck s)) : b = true ∧ sat X Q K := by
  cases b <;> first | exact h.elim | exact ⟨rfl, h⟩

theorem sat_sized4 {b1 b2 b3 agg : Bool} {K : T} {s : String} (h : sat X Q (match b1, b2, b3, agg with
    | true, true, true, true | true, true, false, false => K
    | _, _, _, _ => .stuck s)) : b1 = true ∧ b2 = true ∧ b3 = agg ∧ sat X Q K := by
  cases b1 <;> cases b2 <;> cases b3 <;> cases agg <;> first | exact h.elim | exact ⟨rfl, rfl, rfl, h⟩

theorem op_fld {s : TypeId} {f off n : Nat} {agg : Bool} {x : Opd} {x' : Operand} {fl : Field} (hx : chkOpd X.G x x' = true) (hfl : fldOf X.P s f = some fl) (hoff : fl.offset = off) (ht : tyOK X.P fl.type agg n = true) :
    OpS0 X (.field s x' f) (.fld agg off n f x) := by
  intro o ho e H w fr a Q k hr hf hs
  have hxv := chkOpd_val hr hf hx
  simp only [opT, evK_eq, fldK] at hs
  obtain ⟨fs, hu, hget⟩ := fldOf_some hfl
  obtain ⟨y, d, hp, hs⟩ := sat_getA hs
  simp only [Nat.zero_add] at hs
  -- the value is an aggregate
  have hag : ∃ cs, a.eval x' = .agg cs ∧ AV.rel e (x.at fr) cs.toList := by
    simp only [pathA] at hp
    split at hp
    · rename_i vs hvs
      unfold fieldsA at hvs
      split at hvs
      · rename_i hxa; rw [hxa] at hxv ⊢; simp only [AV.val] at hxv; obtain ⟨cs, h1, h2⟩ := hxv; exact ⟨cs, h1, by simpa [AV.rel] using h2⟩
      · rename_i hxa; rw [hxa] at hxv ⊢; simp only [AV.val, Tr.isAgg] at hxv; obtain ⟨cs, h1, h2⟩ := hxv; exact ⟨cs, h1, by simpa [AV.rel, AV.leaf] using h2⟩
      · cases hvs
    · cases hp
  obtain ⟨cs, hc, hrel⟩ := hag
  obtain ⟨mid, hsub, hry, _⟩ := pathA_sound (y := .undef) hp hrel
  have key : d = off ∧ y.sz = n ∧ y.isAgg = agg ∧ sat X Q (k y H) := by
    obtain ⟨h1, h2, h3, h4⟩ := sat_sized4 hs
    exact ⟨beq_eq h1, beq_eq h2, h3, h4⟩
  obtain ⟨hdo, hsz, hagg, hz⟩ := key
  subst hdo
  obtain ⟨hr1, hr2⟩ := tyOK_run ht w
  have hl := (AV.rel_length hry).1
  have base (c : Value) (h : (part fl.type cs d).run X.P w = .ok c w) : (execOp a.eval o).run X.P w = .ok (.value c) w := by
    simp only [execOp, ho]
    refine run_v ?_
    simp only [Instr.field, Sem.run_bind, run_under hu, Result.andThen, hget, hc, asAgg, hoff]
    simpa using h
  rcases AV.val_of_rel hry with ⟨h1, hval⟩ | ⟨h1, c, rfl, hval⟩
  · rw [h1] at hagg; subst hagg
    rw [base (.agg mid.toArray) (by
      simp only [part, Sem.run_bind, hr1, Result.andThen, if_true, hr2]
      have : cs.extract d (d + n) = mid.toArray := by
        apply Array.ext'
        rw [Array.toList_extract]
        simp only [List.extract_eq_take_drop]
        have := hsub.eq
        rw [show d + n - d = mid.length from by omega]; simpa using this
      rw [this]; rfl)]
    exact Out.same hr hval hz
  · rw [h1] at hagg; subst hagg
    rw [base c (by
      simp only [part, Sem.run_bind, hr1, Result.andThen]
      have := hsub.get (j := 0) rfl
      have : cs[d]? = some c := by simpa using this
      simp [this])]
    exact Out.same hr hval hz

theorem op_ext {x : Opd} {x' : Operand} {i : Nat} (hx : chkOpd X.G x x' = true) : OpS0 X (.extract x' i) (.ext x i) := by
  intro o ho e H w fr a Q k hr hf hs
  have hxv := chkOpd_val hr hf hx
  simp only [opT, evK_eq] at hs
  split at hs
  · rename_i vs hxa
    rw [hxa] at hxv
    obtain ⟨v, hv, hs⟩ := sat_nthK hs
    simp only [AV.val] at hxv
    obtain ⟨cs, hc, hvs⟩ := hxv
    have : ∀ (vs : List AV) (cs : List Value) (i : Nat) (v : AV), AV.vals e vs cs → vs[i]? = some v → ∃ c, cs[i]? = some c ∧ AV.val e v c := by
      intro vs
      induction vs with
      | nil => intro cs i v _ h; simp at h
      | cons u us ih =>
        intro cs i v h hi
        simp only [AV.vals] at h
        obtain ⟨c, b, rfl, h1, h2⟩ := h
        cases i with
        | zero => simp at hi; subst hi; exact ⟨c, rfl, h1⟩
        | succ i => obtain ⟨c', h3, h4⟩ := ih b i v h2 (by simpa using hi); exact ⟨c', by simpa using h3, h4⟩
    obtain ⟨c, hci, hval⟩ := this vs cs.toList i v hvs hv
    have hci : cs[i]? = some c := by simpa using hci
    have : (execOp a.eval o).run X.P w = .ok (.value c) w := by
      simp only [execOp, ho]
      refine run_v ?_
      simp [Instr.extract, hc, hci]
    rw [this]
    exact Out.same hr hval hs
  · exact hs.elim

theorem sat_intK {v : AV} {k : Int → T} (h : sat X Q (intK v k)) : ∃ j n, v = .t (.int j n) ∧ sat X Q (k n) := by
  unfold intK at h
  split at h
  · exact ⟨_, _, rfl, h⟩
  · exact h.elim

theorem op_ia {t el : TypeId} {esz : Nat} {x i : Opd} {x' i' : Operand} (hx : chkOpd X.G x x' = true) (hi : chkOpd X.G i i' = true) (ht : X.P.underlying t = some (.slice el)) (hsz : (X.P.info? el).map (·.size) = some esz) :
    OpS0 X (.indexAddr t x' i') (.ia esz x i) := by
  intro o ho e H w fr a Q k hr hf hs
  have hxv := chkOpd_val hr hf hx
  have hiv := chkOpd_val hr hf hi
  simp only [opT, evK_eq] at hs
  obtain ⟨j, n, hin, hs⟩ := sat_intK hs
  rw [hin] at hiv
  have ei := val_int hiv
  have run {ad : Addr} {len cap : Nat} (hc : a.eval x' = .slice (some ad) len cap) (h0 : 0 ≤ n) (h1 : n < len) : (execOp a.eval o).run X.P w = .ok (.value (.pointer (some (ad.add (n.toNat * esz))))) w := by
    simp only [execOp, ho]
    refine run_v ?_
    rw [hc, ei]
    simp only [Instr.indexAt, asIntOf, Sem.run_bind, Sem.run_pure, Result.andThen, run_under ht]
    simp only [h0, h1, and_self, if_true, Sem.run_bind, run_sizeOf hsz, Result.andThen]
    rfl
  have ro {xs : List Tr} {base : Option Addr} {cap : Nat} (hc : a.eval x' = .slice base xs.length cap)
      (hh : xs = [] ∨ ∃ ad mem mid, base = some ad ∧ ad.spot = none ∧ e.holds ad.block mem ∧ Sub mem ad.off mid ∧ Tr.row e.ro esz xs mid)
      (hs : sat X Q (.idx xs n fun y => k (.vp y) H)) : Out0 X e H w Q k ((execOp a.eval o).run X.P w) := by
    simp only [sat] at hs
    obtain ⟨y, h0, hy, hs⟩ := hs
    have hlt := lt_of_get hy
    rcases hh with rfl | ⟨ad, mem, mid, rfl, hsp, hm, hsub, hrow⟩
    · simp at hy
    · obtain ⟨my, hsy, _, hry⟩ := Tr.row_get hrow hy
      rw [run hc h0 (by omega)]
      refine Out.same hr ?_ hs
      simp only [AV.val, AV.leaf]
      have e1 : ad.add (n.toNat * esz) = ⟨ad.block, ad.off + n.toNat * esz, none⟩ := by
        have := add_off ad.block ad.off (n.toNat * esz)
        rw [← addr_eta hsp] at this; exact this
      rw [e1]
      exact ⟨_, mem, my, rfl, rfl, hm, hsub.trans hsy, hry⟩
  unfold iaK at hs
  split at hs
  · rename_i f e' xs hxa
    rw [hxa] at hxv
    simp only [AV.val, Tr.isAgg, Tr.rel] at hxv
    obtain ⟨base, cap, hc, _, _, hh⟩ := hxv
    split at hs
    · rename_i he; have he := beq_eq he; have hz := hs; subst he
      exact ro (by simpa using hc) (hh.imp id fun ⟨ad, mem, mid, h1, h2, h3, h4, h5⟩ => ⟨ad, mem, mid, h1, h2, .inl h3, h4, h5⟩) hz
    · exact hs.elim
  · rename_i e' xs hxa
    rw [hxa] at hxv
    simp only [AV.val, AV.leaf] at hxv
    obtain ⟨base, cap, hc, _, hh⟩ := hxv
    split at hs
    · rename_i he; have he := beq_eq he; have hz := hs; subst he
      exact ro (by simpa using hc) hh hz
    · exact hs.elim
  · rename_i b o' p off len cap hxa
    rw [hxa] at hxv
    simp only [sat] at hs
    obtain ⟨hb, hs⟩ := hs
    have hb := of_decide_eq_true hb
    obtain ⟨ob, hob, hs⟩ := sat_nthK hs
    simp only [AV.val, AV.leaf] at hxv
    rcases hxv with ⟨_, _, _, _, rfl, _, _⟩ | ⟨blk, esz', rc, nn, base, c, hβ, hc, hle, hin', hcap, hbase⟩
    · omega
    · have hbase : base = some ⟨blk, o' + off * esz', none⟩ := by
        rcases hbase with h | h
        · omega
        · exact h
      subst hbase
      have hc : a.eval x' = .slice (some ⟨blk, o' + off * esz', none⟩) len c := by simpa using hc
      rw [run hc hb.1 hb.2, add_off]
      cases ob with
      | row e' xs =>
        obtain ⟨oo, hoo, hrel⟩ := hr.obj b _ hob (by simp) _ _ _ _ hβ
        obtain ⟨rfl, hnn, _⟩ := hrel
        obtain ⟨_, rfl, _⟩ := hin' _ hnn
        obtain ⟨he, hz⟩ := sat_t hs
        have he := beq_eq he
        subst he
        refine Out.same hr ?_ hz
        simp only [AV.val, AV.leaf]
        exact ⟨blk, _, rc, nn, hβ, by simp [Nat.add_mul]⟩
      | var vv =>
        obtain ⟨oo, hoo, hrel⟩ := hr.obj b _ hob (by simp) _ _ _ _ hβ
        obtain ⟨hnn, he1, _⟩ := hrel
        obtain ⟨he, hz⟩ := sat_t hs
        have he := beq_eq he
        subst he he1
        refine Out.same hr ?_ hz
        simp only [AV.val, AV.leaf]
        exact ⟨blk, _, rc, nn, hβ, by simp; omega⟩
      | map es => exact hs.elim
      | gone => exact hs.elim
      | mapI es i => exact hs.elim
      | iter m es left last => exact hs.elim
      | dr e' ms h' =>
        obtain ⟨oo, hoo, hrel⟩ := hr.obj b _ hob (by simp) _ _ _ _ hβ
        obtain ⟨rfl, hnn, _⟩ := hrel
        obtain ⟨_, rfl, _⟩ := hin' _ hnn
        obtain ⟨he, hz⟩ := sat_t hs
        have he := beq_eq he
        subst he
        refine Out.same hr ?_ hz
        simp only [AV.val, AV.leaf]
        exact ⟨blk, _, rc, nn, hβ, by simp [Nat.add_mul]⟩
  · exact hs.elim

theorem op_iaA {t el : TypeId} {n : Nat} {x i : Opd} {x' i' : Operand} (hx : chkOpd X.G x x' = true) (hi : chkOpd X.G i i' = true) (ht : X.P.underlying t = some (.array n el)) (hsz : (X.P.info? el).map (·.size) = some 1) :
    OpS0 X (.indexAddr t x' i') (.iaA n x i) := by
  intro o ho e H w fr a Q k hr hf hs
  have hxv := chkOpd_val hr hf hx
  have hiv := chkOpd_val hr hf hi
  simp only [opT, evK_eq] at hs
  obtain ⟨j, m, hin, hs⟩ := sat_intK hs
  rw [hin] at hiv
  have ei := val_int hiv
  have run {ad : Addr} (hc : a.eval x' = .pointer (some ad)) (h0 : 0 ≤ m) (h1 : m < n) : (execOp a.eval o).run X.P w = .ok (.value (.pointer (some (ad.add m.toNat)))) w := by
    simp only [execOp, ho]
    refine run_v ?_
    rw [hc, ei]
    simp only [Instr.indexAt, asIntOf, Sem.run_bind, Sem.run_pure, Result.andThen, run_under ht, Instr.sureAddr]
    simp only [h0, h1, and_self, if_true, Sem.run_bind, run_sizeOf hsz, Result.andThen, Nat.mul_one]
    rfl
  unfold iaAK at hs
  split at hs
  · rename_i b i2 o' p hxa
    rw [hxa] at hxv
    simp only [sat] at hs
    obtain ⟨hb, hs⟩ := hs
    have hb := of_decide_eq_true hb
    simp only [AV.val, AV.leaf] at hxv
    obtain ⟨blk, esz, rc, nn, hβ, hc⟩ := hxv
    have hc : a.eval x' = .pointer (some ⟨blk, i2 * esz + o', none⟩) := by simpa using hc
    rw [run hc hb.1 hb.2, add_off]
    refine Out.same hr ?_ hs
    simp only [AV.val, AV.leaf]
    exact ⟨blk, esz, rc, nn, hβ, by simp⟩
  · rename_i m' xs hxa
    rw [hxa] at hxv
    split at hs
    · rename_i hmn
      have hmn := beq_eq hmn
      have hz := hs
      subst hmn
      simp only [sat] at hz
      obtain ⟨y, h0, hy, hz⟩ := hz
      have hlt := lt_of_get hy
      simp only [AV.val, AV.leaf, Tr.rel] at hxv
      obtain ⟨ad, mem, mid, hc, hsp, hm, hsub, hlen, hones⟩ := hxv
      obtain ⟨c, hci, hna, hyr⟩ := Tr.ones_get hones hy
      have hc : a.eval x' = .pointer (some ⟨ad.block, ad.off, none⟩) := by rw [← addr_eta hsp]; simpa using hc
      rw [run hc h0 (by omega), add_off]
      refine Out.same hr ?_ hz
      simp only [AV.val, AV.leaf]
      exact ⟨_, mem, [c], rfl, rfl, hm, hsub.trans (Sub.one hci), hyr⟩
    · exact hs.elim
  · exact hs.elim

/-- An element of an array of structs. -/
theorem op_iaC {t el : TypeId} {n esz : Nat} {x i : Opd} {x' i' : Operand} (hx : chkOpd X.G x x' = true) (hi : chkOpd X.G i i' = true) (ht : X.P.underlying t = some (.array n el)) (hsz : (X.P.info? el).map (·.size) = some esz) :
    OpS0 X (.indexAddr t x' i') (.iaC n esz x i) := by
  intro o ho e H w fr a Q k hr hf hs
  have hxv := chkOpd_val hr hf hx
  have hiv := chkOpd_val hr hf hi
  simp only [opT, evK_eq] at hs
  obtain ⟨j, m, hin, hs⟩ := sat_intK hs
  rw [hin] at hiv
  have ei := val_int hiv
  have run {ad : Addr} (hc : a.eval x' = .pointer (some ad)) (h0 : 0 ≤ m) (h1 : m < n) : (execOp a.eval o).run X.P w = .ok (.value (.pointer (some (ad.add (m.toNat * esz))))) w := by
    simp only [execOp, ho]
    refine run_v ?_
    rw [hc, ei]
    simp only [Instr.indexAt, asIntOf, Sem.run_bind, Sem.run_pure, Result.andThen, run_under ht, Instr.sureAddr]
    simp only [h0, h1, and_self, if_true, Sem.run_bind, run_sizeOf hsz, Result.andThen]
    rfl
  unfold iaCK at hs
  split at hs
  · rename_i b i2 o' p hxa
    rw [hxa] at hxv
    simp only [sat] at hs
    obtain ⟨hb, hs⟩ := hs
    have hb := of_decide_eq_true hb
    rw [litK_eq, snocK_eq] at hs
    simp only [AV.val, AV.leaf] at hxv
    obtain ⟨blk, esz', rc, nn, hβ, hc⟩ := hxv
    have hc : a.eval x' = .pointer (some ⟨blk, i2 * esz' + o', none⟩) := by simpa using hc
    rw [run hc hb.1 hb.2, add_off]
    refine Out.same hr ?_ hs
    simp only [AV.val, AV.leaf]
    exact ⟨blk, esz', rc, nn, hβ, by simp [Nat.add_assoc]⟩
  · rename_i xs hxa
    rw [hxa] at hxv
    simp only [sat] at hs
    obtain ⟨hb, hs⟩ := hs
    have hb := of_decide_eq_true hb
    rw [litK_eq] at hs
    simp only [AV.val, AV.leaf] at hxv
    obtain ⟨ad, mem, mid, hc, hsp, hm, hsub, hrel⟩ := hxv
    obtain ⟨y, d, hp, hs⟩ := sat_getT hs
    simp only [Nat.zero_add] at hs
    obtain ⟨my, hsy, hry, _⟩ := path_sound (y := .nilp) hp hrel
    split at hs
    · rename_i hd
      have hd := beq_eq hd
      have hc : a.eval x' = .pointer (some ⟨ad.block, ad.off, none⟩) := by rw [← addr_eta hsp]; simpa using hc
      rw [run hc hb.1 hb.2, add_off, ← hd]
      refine Out.same hr ?_ hs
      simp only [AV.val, AV.leaf]
      exact ⟨_, mem, my, rfl, rfl, hm, hsub.trans hsy, hry⟩
    · exact hs.elim
  · exact hs.elim

theorem op_ixA {t el : TypeId} {n : Nat} {x i : Opd} {x' i' : Operand} (hx : chkOpd X.G x x' = true) (hi : chkOpd X.G i i' = true) (ht : X.P.underlying t = some (.array n el)) (hty : tyOK X.P el false 1 = true) :
    OpS0 X (.index t x' i') (.ixA n x i) := by
  intro o ho e H w fr a Q k hr hf hs
  have hxv := chkOpd_val hr hf hx
  have hiv := chkOpd_val hr hf hi
  simp only [opT, evK_eq] at hs
  obtain ⟨j, m, hin, hs⟩ := sat_intK hs
  rw [hin] at hiv
  have ei := val_int hiv
  unfold ixAK at hs
  split at hs
  · rename_i m' xs hxa
    rw [hxa] at hxv
    split at hs
    · rename_i hmn
      have hmn := beq_eq hmn
      have hz := hs
      subst hmn
      simp only [sat] at hz
      obtain ⟨y, h0, hy, hz⟩ := hz
      have hlt := lt_of_get hy
      simp only [AV.val, Tr.isAgg, Tr.rel] at hxv
      obtain ⟨cs, hc, hlen, hones⟩ := hxv
      obtain ⟨c, hci, hna, hyr⟩ := Tr.ones_get hones hy
      have hci : cs[m.toNat]? = some c := by simpa using hci
      obtain ⟨h1, h2⟩ := tyOK_run hty w
      have : (execOp a.eval o).run X.P w = .ok (.value c) w := by
        simp only [execOp, ho]
        refine run_v ?_
        rw [hc, ei]
        simp only [Instr.index, asIntOf, Sem.run_bind, Sem.run_pure, Result.andThen, run_under ht]
        rw [if_pos ⟨h0, by omega⟩]
        simp only [part, Sem.run_bind, h1, h2, Result.andThen, Nat.mul_one]
        simp [hci]
      rw [this]
      exact Out.same hr (by simp only [AV.val, hna]; exact hyr) hz
    · exact hs.elim
  · exact hs.elim

theorem op_ixS {t : TypeId} {x i : Opd} {x' i' : Operand} (hx : chkOpd X.G x x' = true) (hi : chkOpd X.G i i' = true) (ht : X.P.underlying t = some .string) {op : Op} (hop : op = .index t x' i') :
    OpS0 X op (.ixS x i) := by
  intro o ho e H w fr a Q k hr hf hs
  have hxv := chkOpd_val hr hf hx
  have hiv := chkOpd_val hr hf hi
  simp only [opT, evK_eq] at hs
  obtain ⟨j, m, hin, hs⟩ := sat_intK hs
  rw [hin] at hiv
  have ei := val_int hiv
  unfold ixSK at hs
  split at hs
  · rename_i s hxa
    rw [hxa] at hxv
    have ex := val_str hxv
    simp only [sat] at hs
    obtain ⟨hb, hs⟩ := hs
    have hb := of_decide_eq_true hb
    have hlt : m.toNat < s.size := by omega
    have hget : s[m.toNat]? = some (s[m.toNat]) := by simp [hlt]
    have : (execOp a.eval o).run X.P w = .ok (.value (.int .u8 (s.data.toList.getD m.toNat 0).toNat)) w := by
      subst hop
      simp only [execOp, ho]
      refine run_v ?_
      rw [ex, ei]
      simp only [Instr.index, asIntOf, Sem.run_bind, Sem.run_pure, Result.andThen, run_under ht]
      rw [if_pos hb.1, hget]
      simp only [Sem.run_pure]
      congr 3
      rw [List.getD_eq_getElem?_getD, Array.getElem?_toList, Array.getElem?_eq_getElem hlt]
      rfl
    rw [this]
    exact Out.same hr (mk_int _ _ _) hs
  · exact hs.elim

/-! ### Lengths -/
theorem run_call_builtin {o : Oper} {b : Builtin} {args : Array Operand} {ats : Array TypeId} (ho : o.op = .call { callee := .builtin b, args, argTypes := ats }) (ev : Operand → Value) (P : Program) (w : World) :
    (execOp ev o).run P w = (builtin b ats o.type (args.map fun | .const _ => true | _ => false) (args.map ev)).run P w := by
  simp only [execOp, ho, resolve, pure_bind, invoke]
  rfl

theorem op_lenL {t el : TypeId} {x : Opd} {x' : Operand} (hx : chkOpd X.G x x' = true) (ht : X.P.underlying t = some (.slice el)) : OpS0 X (.call { callee := .builtin .len, args := #[x'], argTypes := #[t] }) (.lenL x) := by
  intro o ho e H w fr a Q k hr hf hs
  have hxv := chkOpd_val hr hf hx
  simp only [opT, evK_eq] at hs
  have run {ad : Option Addr} {n c : Nat} (hc : a.eval x' = .slice ad n c) : (execOp a.eval o).run X.P w = .ok (.value (.int .i64 n)) w := by
    rw [run_call_builtin ho]
    simp only [builtin]
    refine run_v ?_
    simp [Builtin.len_, hc, Sem.run_bind, run_under ht, Result.andThen, goInt]
  split at hs
  · rename_i hxa; rw [hxa] at hxv; simp only [AV.val, Tr.isAgg, Tr.rel] at hxv
    obtain ⟨base, cap, hc, _⟩ := hxv
    rw [run (by simpa using hc)]; exact Out.same hr (mk_int _ _ _) hs
  · rename_i hxa; rw [hxa] at hxv; simp only [AV.val, AV.leaf] at hxv
    obtain ⟨base, cap, hc, _⟩ := hxv
    rw [run (by simpa using hc)]; exact Out.same hr (mk_int _ _ _) hs
  · rename_i hxa; rw [hxa] at hxv; simp only [AV.val, AV.leaf] at hxv
    rcases hxv with ⟨_, _, _, _, rfl, _, base, hc⟩ | ⟨_, _, _, _, base, c, _, hc, _⟩
    · rw [run (by simpa using hc)]; exact Out.same hr (mk_int _ _ _) hs
    · rw [run (by simpa using hc)]; exact Out.same hr (mk_int _ _ _) hs
  · exact hs.elim

theorem op_lenS {t : TypeId} {x : Opd} {x' : Operand} (hx : chkOpd X.G x x' = true) (ht : X.P.underlying t = some .string) : OpS0 X (.call { callee := .builtin .len, args := #[x'], argTypes := #[t] }) (.lenS x) := by
  intro o ho e H w fr a Q k hr hf hs
  have hxv := chkOpd_val hr hf hx
  simp only [opT, evK_eq] at hs
  split at hs
  · rename_i s hxa; rw [hxa] at hxv
    have : (execOp a.eval o).run X.P w = .ok (.value (.int .i64 s.size)) w := by
      rw [run_call_builtin ho]
      simp only [builtin]
      refine run_v ?_
      simp [Builtin.len_, val_str hxv, Sem.run_bind, run_under ht, Result.andThen, goInt]
    rw [this]; exact Out.same hr (mk_int _ _ _) hs
  · exact hs.elim

theorem op_lenM {t q u : TypeId} {x : Opd} {x' : Operand} (hx : chkOpd X.G x x' = true) (ht : X.P.underlying t = some (.map q u)) : OpS0 X (.call { callee := .builtin .len, args := #[x'], argTypes := #[t] }) (.lenM x) := by
  intro o ho e H w fr a Q k hr hf hs
  have hxv := chkOpd_val hr hf hx
  simp only [opT, evK_eq] at hs
  split at hs
  · rename_i hxa; rw [hxa] at hxv; simp only [AV.val, Tr.isAgg, Tr.rel] at hxv
    have : (execOp a.eval o).run X.P w = .ok (.value (.int .i64 0)) w := by
      rw [run_call_builtin ho]
      simp only [builtin]
      refine run_v ?_
      simp at hxv
      simp [Builtin.len_, hxv, Sem.run_bind, run_under ht, Result.andThen, goInt]
    rw [this]; exact Out.same hr (mk_int _ _ _) hs
  · rename_i b hxa; rw [hxa] at hxv; simp only [AV.val, AV.leaf] at hxv
    obtain ⟨blk, esz, rc, n, hβ, hc⟩ := hxv
    obtain ⟨ob, hob, hs⟩ := sat_nthK hs
    have key : ∀ es : List (Tr × Tr), (∃ ents clock, w.heap[blk]? = some (.map ents clock) ∧ mapRel e.ro es ents.toList) → sat X Q (k (.t (.int .i64 (es.length : Int))) H) → Out0 X e H w Q k ((execOp a.eval o).run X.P w) := by
      rintro es ⟨ents, clock, hoo, hm⟩ hs
      have hlen : es.length = ents.size := by
        rw [← Array.length_toList]
        have : ∀ (es : List (Tr × Tr)) (l : List MapEntry), mapRel e.ro es l → es.length = l.length := by
          intro es
          induction es with
          | nil => intro l h; simp only [mapRel] at h; simp [h]
          | cons x r ih =>
            intro l h
            simp only [mapRel] at h
            obtain ⟨me, es', rfl, _, _, h⟩ := h
            simp [ih _ h]
        exact this _ _ hm
      have : (execOp a.eval o).run X.P w = .ok (.value (.int .i64 es.length)) w := by
        rw [run_call_builtin ho]
        simp only [builtin]
        refine run_v ?_
        simp at hc
        simp [Builtin.len_, hc, Sem.run_bind, run_under ht, Result.andThen, goInt, getObj, Sem.run, hoo, hlen]
      rw [this]; exact Out.same hr (mk_int _ _ _) hs
    split at hs
    · obtain ⟨oo, hoo, hrel⟩ := hr.obj b _ hob (by simp) _ _ _ _ hβ
      obtain ⟨_, ents, clock, rfl, hm, _⟩ := hrel
      exact key _ ⟨ents, clock, hoo, hm⟩ hs
    · obtain ⟨oo, hoo, hrel⟩ := hr.obj b _ hob (by simp) _ _ _ _ hβ
      obtain ⟨_, ents, clock, rfl, hm, _⟩ := hrel
      exact key _ ⟨ents, clock, hoo, hm⟩ hs
    · exact hs.elim
  · exact hs.elim

theorem op_lenA {t u : TypeId} {n : Nat} {x' : Operand} (h : X.P.underlying t = some (.array n u) ∨ ∃ q, X.P.underlying t = some (.pointer q) ∧ X.P.underlying q = some (.array n u)) :
    OpS0 X (.call { callee := .builtin .len, args := #[x'], argTypes := #[t] }) (.lenA n) := by
  intro o ho e H w fr a Q k hr hf hs
  simp only [opT] at hs
  have : (execOp a.eval o).run X.P w = .ok (.value (.int .i64 n)) w := by
    rw [run_call_builtin ho]
    simp only [builtin]
    refine run_v ?_
    rcases h with h | ⟨q, h1, h2⟩
    · simp [Builtin.len_, Sem.run_bind, run_under h, Result.andThen, goInt]
    · simp [Builtin.len_, Sem.run_bind, run_under h1, run_under h2, Result.andThen, goInt]
  rw [this]; exact Out.same hr (mk_int _ _ _) hs
end Stk
end

section
/- The framework, part 8: cuts. -/
namespace Stk
open Go
variable {X : Cx} {Q : Ex → Fr → Hp → Prop} {e : Env} {H : Hp} {w : World}

def chkOO (G : Gl) : Option Opd → Option Operand → Bool
  | none, none => true
  | some x, some y => chkOpd G x y
  | _, _ => false
/-- A bound that is there, or not. -/
def OInt (n : Option Int) (v : Option Value) : Prop :=
  match n, v with
  | none, none => True
  | some n, some v => ∃ j, v = .int j n
  | _, _ => False
theorem sat_ointK {fr : Fr} {a : Act} (hr : Rel X.G e H w) (hf : FrR X.N e fr a) {x : Option Opd} {x' : Option Operand} (hx : chkOO X.G x x' = true) {k : Option Int → T} (h : sat X Q (ointK fr x k)) :
    ∃ n, OInt n (x'.map a.eval) ∧ sat X Q (k n) := by
  cases x with
  | none => cases x' with
    | none => exact ⟨none, trivial, h⟩
    | some y => simp [chkOO] at hx
  | some x => cases x' with
    | none => simp [chkOO] at hx
    | some y =>
      simp only [ointK, evK_eq] at h
      obtain ⟨j, n, hn, h⟩ := sat_intK h
      have hv := chkOpd_val hr hf (x := x) (y := y) hx
      rw [hn] at hv
      exact ⟨some n, ⟨j, val_int hv⟩, h⟩

theorem run_sliceBound {P : Program} {j : IntKind} {i : Int} {y : Nat} {code : BoundsCode} (h0 : 0 ≤ i) (h1 : i ≤ y) (w : World) : (Instr.sliceBound (.int j i) y code).run P w = .ok i.toNat w := by
  simp only [Instr.sliceBound, asIntOf, Sem.run_bind, Sem.run_pure, Result.andThen]
  rw [if_pos ⟨h0, h1⟩]; rfl

def lowRun (v : Option Value) (h : Nat) (code : BoundsCode) : Sem Nat :=
  match v with
  | some v => Instr.sliceBound v h code
  | none => pure 0
theorem cut_sound {len top top' : Nat} {lo hi : Option Int} {vlo vhi : Option Value} (hlo : OInt lo vlo) (hhi : OInt hi vhi) (ht : top ≤ top') {k : Nat → Nat → T} (h : sat X Q (cutK len top lo hi k)) :
    ∃ l h', l ≤ h' ∧ (hi = none → h' = len) ∧ (∀ x, hi = some x → h' ≤ top ∧ x = (h' : Int)) ∧ sat X Q (k l h') ∧
      ∀ P b, (Instr.sliceBounds b len top' vlo vhi none).run P w = .ok (l, h', top') w := by
  have low (hh : Nat) (hs : sat X Q (lowK lo hh k)) : ∃ l, l ≤ hh ∧ sat X Q (k l hh) ∧ ∀ P code, (lowRun vlo hh code).run P w = .ok l w := by
    cases lo with
    | none => cases vlo with
      | none => exact ⟨0, Nat.zero_le _, hs, fun P code => rfl⟩
      | some v => exact hlo.elim
    | some l => cases vlo with
      | none => exact hlo.elim
      | some v =>
        obtain ⟨j, rfl⟩ := hlo
        obtain ⟨hb, hs⟩ := hs
        have hb := of_decide_eq_true hb
        exact ⟨l.toNat, by omega, hs, fun P code => run_sliceBound hb.1 hb.2 w⟩
  unfold cutK at h
  cases hi with
  | none => cases vhi with
    | some v => exact hhi.elim
    | none =>
      obtain ⟨l, h1, h2, h3⟩ := low len h
      refine ⟨l, len, h1, fun _ => rfl, by simp, h2, fun P b => ?_⟩
      have h4 := h3 P .sliceB
      simp only [Instr.sliceBounds, Sem.run_bind, Sem.run_pure, Result.andThen, Option.isSome]
      cases vlo <;> simp_all [lowRun]
  | some x => cases vhi with
    | none => exact hhi.elim
    | some v =>
      obtain ⟨j, rfl⟩ := hhi
      simp only [sat] at h
      obtain ⟨hb, h⟩ := h
      have hb := of_decide_eq_true hb
      obtain ⟨l, h1, h2, h3⟩ := low x.toNat h
      refine ⟨l, x.toNat, h1, by simp, fun y hy => by obtain rfl := Option.some.inj hy; omega, h2, fun P b => ?_⟩
      have h4 := h3 P .sliceB
      have h5 : ∀ code, (Instr.sliceBound (.int j x) top' code).run P w = .ok x.toNat w := fun code => run_sliceBound hb.1 (by omega) w
      simp only [Instr.sliceBounds, Sem.run_bind, Sem.run_pure, Result.andThen, Option.isSome, h5]
      cases vlo <;> simp_all [lowRun]

theorem cut3_sound {len top top' : Nat} {lo : Option Int} {hi m : Int} {vlo : Option Value} {vhi vm : Value} {j1 j2 : IntKind} (hlo : OInt lo vlo) (hhi : vhi = .int j1 hi) (hm : vm = .int j2 m) (hm0 : 0 ≤ m) (hmt : m ≤ top') (ht : top = m.toNat ∨ (hi = m)) {k : Nat → Nat → T} (h : sat X Q (cutK len top lo (some hi) k)) :
    ∃ l h', l ≤ h' ∧ h' ≤ m.toNat ∧ h' ≤ top ∧ hi = (h' : Int) ∧ sat X Q (k l h') ∧
      ∀ P b, (Instr.sliceBounds b len top' vlo (some vhi) (some vm)).run P w = .ok (l, h', m.toNat) w := by
  subst hhi hm
  unfold cutK at h
  simp only [sat] at h
  obtain ⟨hb, h⟩ := h
  have hb := of_decide_eq_true hb
  have h5 : ∀ P code, (Instr.sliceBound (.int j2 m) top' code).run P w = .ok m.toNat w := fun P code => run_sliceBound hm0 hmt w
  have h6 : ∀ P code, (Instr.sliceBound (.int j1 hi) m.toNat code).run P w = .ok hi.toNat w := fun P code => run_sliceBound hb.1 (by omega) w
  cases lo with
  | none => cases vlo with
    | some v => exact hlo.elim
    | none =>
      refine ⟨0, hi.toNat, Nat.zero_le _, by omega, by omega, by omega, h, fun P b => ?_⟩
      simp only [Instr.sliceBounds, Sem.run_bind, Sem.run_pure, Result.andThen, h5, h6]
  | some l => cases vlo with
    | none => exact hlo.elim
    | some v =>
      obtain ⟨j, rfl⟩ := hlo
      obtain ⟨hc, h⟩ := h
      have hc := of_decide_eq_true hc
      refine ⟨l.toNat, hi.toNat, by omega, by omega, by omega, by omega, h, fun P b => ?_⟩
      have h7 : ∀ code, (Instr.sliceBound (.int j l) hi.toNat code).run P w = .ok l.toNat w := fun code => run_sliceBound hc.1 hc.2 w
      simp only [Instr.sliceBounds, Sem.run_bind, Sem.run_pure, Result.andThen, Option.isSome, h5, h6, h7]

theorem op_sliceS {t : TypeId} {x : Opd} {x' : Operand} {lo hi : Option Opd} {lo' hi' : Option Operand} (hx : chkOpd X.G x x' = true) (h1 : chkOO X.G lo lo' = true) (h2 : chkOO X.G hi hi' = true) (ht : X.P.underlying t = some .string) :
    OpS0 X (.slice t x' lo' hi' none) (.sliceS x lo hi) := by
  intro o ho e H w fr a Q k hr hf hs
  have hxv := chkOpd_val hr hf hx
  simp only [opT, evK_eq] at hs
  obtain ⟨l, hl, hs⟩ := sat_ointK hr hf h1 hs
  obtain ⟨h, hh, hs⟩ := sat_ointK hr hf h2 hs
  split at hs
  · rename_i s hxa
    rw [hxa] at hxv
    obtain ⟨l', h', hle, _, _, hs, hrun⟩ := cut_sound (w := w) hl hh (Nat.le_refl _) hs
    have : (execOp a.eval o).run X.P w = .ok (.value (.string (s.extract l' h'))) w := by
      simp only [execOp, ho]
      refine run_v ?_
      rw [val_str hxv]
      simp only [Instr.sliceAt, Sem.run_bind, run_under ht, Result.andThen, Instr.slice, Option.map_none, Option.isSome]
      have := hrun X.P false
      simp [this, Result.andThen]
    rw [this]
    exact Out.same hr (mk_str _ _) hs
  · exact hs.elim

theorem eszK_sound {esz b : Nat} {k : Nat → T} (h : sat X Q (eszK esz H b k)) (hr : Rel X.G e H w) {blk es rc : Nat} {n : Option Nat} (hβ : e.β b = .at blk es rc n) : es = esz ∧ ∃ rl, sat X Q (k rl) ∧ (rl = 0 ∨ (n = some rl ∧ rl ≤ rc)) := by
  unfold eszK at h
  obtain ⟨ob, hob, h⟩ := sat_nthK h
  cases ob with
  | row e' xs =>
    obtain ⟨_, _, hrel⟩ := hr.obj b _ hob (by simp) _ _ _ _ hβ
    obtain ⟨he, hk⟩ := sat_t h
    have he := beq_eq he
    refine ⟨by rw [← he, hrel.1], _, hk, .inr ⟨hrel.2.1, ?_⟩⟩
    obtain ⟨_, _, _, _, _, _, _, _, h5, _⟩ := hrel
    exact h5
  | var v =>
    obtain ⟨_, _, hrel⟩ := hr.obj b _ hob (by simp) _ _ _ _ hβ
    obtain ⟨he, hk⟩ := sat_t h
    have he := beq_eq he
    exact ⟨by rw [hrel.2.1, he], _, hk, .inl rfl⟩
  | map es => exact h.elim
  | gone => exact h.elim
  | mapI es i => exact h.elim
  | iter m es left last => exact h.elim
  | dr e' ms h' => exact h.elim
theorem eszK_cont {esz b : Nat} {k : Nat → T} (h : sat X Q (eszK esz H b k)) : ∃ rl, sat X Q (k rl) ∧ ((∃ ys, H[b]? = some (.row esz ys) ∧ rl = ys.length) ∨ rl = 0) := by
  unfold eszK at h
  obtain ⟨ob, hob, h⟩ := sat_nthK h
  cases ob with
  | row e' xs => 
    obtain ⟨he, hk⟩ := sat_t h
    have he := beq_eq he
    subst he
    exact ⟨_, hk, .inl ⟨xs, hob, rfl⟩⟩
  | var v => exact ⟨_, (sat_t h).2, .inr rfl⟩
  | map es => exact h.elim
  | gone => exact h.elim
  | mapI es i => exact h.elim
  | iter m es left last => exact h.elim
  | dr e' ms h' => exact h.elim


/-- a stretch of read-only memory, cut -/
theorem ro_cut {esz : Nat} {xs : List Tr} {base : Option Addr} {holds : Nat → List Value → Prop} {m : Nat → Option (List Value)}
    (hh : xs = [] ∨ ∃ ad mem mid, base = some ad ∧ ad.spot = none ∧ holds ad.block mem ∧ Sub mem ad.off mid ∧ Tr.row m esz xs mid) {l h : Nat} (hle : l ≤ h) (hhx : h ≤ xs.length) :
    (xs.take h).drop l = [] ∨ ∃ ad mem mid, base.map (·.add (l * esz)) = some ad ∧ ad.spot = none ∧ holds ad.block mem ∧ Sub mem ad.off mid ∧ Tr.row m esz ((xs.take h).drop l) mid := by
  rcases hh with rfl | ⟨ad, mem, mid, rfl, hsp, hm, hsub, hrow⟩
  · left; simp
  · right
    obtain ⟨mid2, hs2, hr2⟩ := Tr.row_cut hrow l (h - l)
    rw [Nat.min_eq_left (by omega)] at hs2
    have e1 : ad.add (l * esz) = ⟨ad.block, ad.off + l * esz, none⟩ := by
      have := add_off ad.block ad.off (l * esz)
      rw [← addr_eta hsp] at this; exact this
    refine ⟨⟨ad.block, ad.off + l * esz, none⟩, mem, mid2, by simp [e1], rfl, hm, hsub.trans hs2, ?_⟩
    rw [List.drop_take]; exact hr2

theorem op_slice {t el : TypeId} {esz : Nat} {x : Opd} {x' : Operand} {lo hi mx : Option Opd} {lo' hi' mx' : Option Operand} (hx : chkOpd X.G x x' = true) (h1 : chkOO X.G lo lo' = true) (h2 : chkOO X.G hi hi' = true) (h3 : chkOO X.G mx mx' = true)
    (ht : X.P.underlying t = some (.slice el)) (hsz : (X.P.info? el).map (·.size) = some esz) :
    OpS0 X (.slice t x' lo' hi' mx') (.slice esz x lo hi mx) := by
  intro o ho e H w fr a Q k hr hf hs
  have hxv := chkOpd_val hr hf hx
  simp only [opT, evK_eq] at hs
  obtain ⟨l, hl, hs⟩ := sat_ointK hr hf h1 hs
  obtain ⟨h, hh, hs⟩ := sat_ointK hr hf h2 hs
  obtain ⟨m, hm, hs⟩ := sat_ointK hr hf h3 hs
  have run {ad : Option Addr} {n c l' h' m' : Nat} (hc : a.eval x' = .slice ad n c) (hb : ∀ P b, (Instr.sliceBounds b n c (lo'.map a.eval) (hi'.map a.eval) (mx'.map a.eval)).run P w = .ok (l', h', m') w) :
      (execOp a.eval o).run X.P w = .ok (.value (.slice (if m' = l' then ad else ad.map (·.add (l' * esz))) (h' - l') (m' - l'))) w := by
    simp only [execOp, ho]
    refine run_v ?_
    rw [hc]
    simp only [Instr.sliceAt, Sem.run_bind, run_under ht, Result.andThen, Instr.slice, hb X.P true, run_sizeOf hsz]
    rfl
  have nomax : m = none → mx'.map a.eval = none := by
    rintro rfl
    cases hmm : mx'.map a.eval with
    | none => rfl
    | some v => rw [hmm] at hm; exact hm.elim
  have somemax {n : Int} : m = some n → ∃ j, mx'.map a.eval = some (.int j n) := by
    rintro rfl
    cases hmm : mx'.map a.eval with
    | none => rw [hmm] at hm; exact hm.elim
    | some v => rw [hmm] at hm; obtain ⟨j, rfl⟩ := hm; exact ⟨j, rfl⟩
  have somehi {n : Int} : h = some n → ∃ j, hi'.map a.eval = some (.int j n) := by
    rintro rfl
    cases hmm : hi'.map a.eval with
    | none => rw [hmm] at hh; exact hh.elim
    | some v => rw [hmm] at hh; obtain ⟨j, rfl⟩ := hh; exact ⟨j, rfl⟩
  unfold sliceK at hs
  split at hs
  · rename_i full e' xs hxa
    rw [hxa] at hxv
    simp only [AV.val, Tr.isAgg, Tr.rel] at hxv
    obtain ⟨base, cap, hc, hfull, hcap, hro⟩ := hxv
    have hc : a.eval x' = .slice base xs.length cap := by simpa using hc
    obtain ⟨he, hs⟩ := sat_off' hs
    have he := beq_eq he
    subst he
    cases m with
    | none =>
      have hmx := nomax rfl
      cases h with
      | none =>
        obtain ⟨l', h', hle, hn, _, hs, hrun⟩ := cut_sound (w := w) hl hh hcap hs
        have hn := hn rfl
        subst hn
        rw [run hc (by rw [hmx]; exact hrun)]
        refine Out.same hr ?_ hs
        have e1 : (xs.take xs.length).drop l' = xs.drop l' := by rw [List.take_of_length_le (Nat.le_refl _)]
        simp only [AV.val, Tr.isAgg, Tr.rel]
        refine ⟨_, _, by simp only [List.length_drop]; rfl, ?_, by simp; omega, ?_⟩
        · intro hf1; have := hfull hf1; simp; omega
        · rcases ro_cut (holds := fun k mem => e.ro k = some mem) hro hle (Nat.le_refl _) with hz | hz
          · left; rw [e1] at hz; exact hz
          · by_cases hcl : cap = l'
            · left; simp; omega
            · rw [if_neg hcl, ← e1]; exact .inr hz
      | some hv =>
        obtain ⟨l', h', hle, _, hx1, hs, hrun⟩ := cut_sound (w := w) hl hh hcap hs
        obtain ⟨hx1, _⟩ := hx1 _ rfl
        rw [run hc (by rw [hmx]; exact hrun)]
        refine Out.same hr ?_ hs
        simp only [AV.val, Tr.isAgg, Tr.rel]
        have hlen : ((xs.take h').drop l').length = h' - l' := by simp; omega
        refine ⟨_, _, by rw [hlen], by simp, by rw [hlen]; omega, ?_⟩
        rcases ro_cut (holds := fun k mem => e.ro k = some mem) hro hle hx1 with hz | hz
        · exact .inl hz
        · by_cases hcl : cap = l'
          · left; rw [← List.length_eq_zero_iff, hlen]; omega
          · rw [if_neg hcl]; exact .inr hz
    | some mv =>
      obtain ⟨jm, hmx⟩ := somemax rfl
      cases h with
      | none => exact hs.elim
      | some hv =>
        obtain ⟨jh, hhx⟩ := somehi rfl
        simp only [sat] at hs
        obtain ⟨hmh, hs⟩ := hs
        have hmh : mv = hv := by simpa using hmh
        subst hmh
        have hs0 := hs
        unfold cutK at hs0
        have hb0 := of_decide_eq_true hs0.1
        obtain ⟨l', h', hle, hx0, hx1, hx2, hs, hrun⟩ := cut3_sound (w := w) (top' := cap) hl rfl rfl hb0.1 (by omega) (.inr rfl) (vhi := .int jh mv) (vm := .int jm mv) hs
        rw [run hc (by rw [hmx, hhx]; exact hrun)]
        refine Out.same hr ?_ hs
        have hmv : mv.toNat = h' := by omega
        rw [hmv]
        simp only [AV.val, Tr.isAgg, Tr.rel]
        have hlen : ((xs.take h').drop l').length = h' - l' := by simp; omega
        refine ⟨_, _, by rw [hlen], by intro; rw [hlen], by rw [hlen]; omega, ?_⟩
        rcases ro_cut (holds := fun k mem => e.ro k = some mem) hro hle hx1 with hz | hz
        · exact .inl hz
        · by_cases hcl : h' = l'
          · left; rw [← List.length_eq_zero_iff, hlen]; omega
          · rw [if_neg hcl]; exact .inr hz
  · rename_i e' xs hxa
    rw [hxa] at hxv
    simp only [AV.val, AV.leaf] at hxv
    obtain ⟨base, cap, hc, hcap, hro⟩ := hxv
    have hc : a.eval x' = .slice base xs.length cap := by simpa using hc
    obtain ⟨he, hs⟩ := sat_off' hs
    have he := beq_eq he
    subst he
    cases m with
    | none =>
      have hmx := nomax rfl
      obtain ⟨l', h', hle, hn, hx1, hs, hrun⟩ := cut_sound (w := w) hl hh hcap hs
      have hx1 : h' ≤ xs.length := by
        cases h with
        | none => rw [hn rfl]; exact Nat.le_refl _
        | some v => exact (hx1 _ rfl).1
      rw [run hc (by rw [hmx]; exact hrun)]
      refine Out.same hr ?_ hs
      simp only [AV.val, AV.leaf]
      have hlen : ((xs.take h').drop l').length = h' - l' := by simp; omega
      refine ⟨_, _, by rw [hlen], by rw [hlen]; omega, ?_⟩
      rcases ro_cut hro hle hx1 with hz | hz
      · exact .inl hz
      · by_cases hcl : cap = l'
        · left; rw [← List.length_eq_zero_iff, hlen]; omega
        · rw [if_neg hcl]; exact .inr hz
    | some mv =>
      obtain ⟨jm, hmx⟩ := somemax rfl
      cases h with
      | none => exact hs.elim
      | some hv =>
        obtain ⟨jh, hhx⟩ := somehi rfl
        simp only [sat] at hs
        obtain ⟨hmh, hs⟩ := hs
        have hmh : mv = hv := by simpa using hmh
        subst hmh
        have hs0 := hs
        unfold cutK at hs0
        have hb0 := of_decide_eq_true hs0.1
        obtain ⟨l', h', hle, hx0, hx1, hx2, hs, hrun⟩ := cut3_sound (w := w) (top' := cap) hl rfl rfl hb0.1 (by omega) (.inr rfl) (vhi := .int jh mv) (vm := .int jm mv) hs
        rw [run hc (by rw [hmx, hhx]; exact hrun)]
        refine Out.same hr ?_ hs
        have hmv : mv.toNat = h' := by omega
        rw [hmv]
        simp only [AV.val, AV.leaf]
        have hlen : ((xs.take h').drop l').length = h' - l' := by simp; omega
        refine ⟨_, _, by rw [hlen], by rw [hlen]; omega, ?_⟩
        rcases ro_cut hro hle hx1 with hz | hz
        · exact .inl hz
        · by_cases hcl : h' = l'
          · left; rw [← List.length_eq_zero_iff, hlen]; omega
          · rw [if_neg hcl]; exact .inr hz
  · rename_i b o' p off len cap hxa
    rw [hxa] at hxv
    simp only [AV.val, AV.leaf] at hxv
    rcases hxv with ⟨hβ, rfl, rfl, rfl, rfl, hcp, base, hc⟩ | ⟨blk, es, rc, nn, base, c, hβ, hc, hle0, hin, hcap, hbase⟩
    · have hc : a.eval x' = .slice base 0 0 := by simpa using hc
      obtain ⟨rl, hs, hrl⟩ := eszK_cont hs
      have hrl0 : rl = 0 := by
        rcases hrl with ⟨ys, h1, h2⟩ | h2
        · obtain ⟨_, h3 | h3⟩ := hr.virt b _ h1 (by simp) hβ
          · simp only [AO.row.injEq] at h3
            rw [h2, h3.2]; rfl
          · cases h3
        · exact h2
      cases m with
      | none =>
        have hmx := nomax rfl
        simp only at hs
        have e0 : cap.getD (max 0 (rl - 0)) = 0 := by rw [hrl0]; simpa using hcp
        rw [e0] at hs
        obtain ⟨l', h', hle, hn, hx1, hs, hrun⟩ := cut_sound (w := w) hl hh (Nat.le_refl 0) hs
        have hx1 : h' = 0 := by
          cases h with
          | none => exact hn rfl
          | some v => have := (hx1 _ rfl).1; omega
        subst hx1
        have : l' = 0 := by omega
        subst this
        rw [run hc (by rw [hmx]; exact hrun)]
        refine Out.same hr ?_ hs
        simp only [AV.val, AV.leaf]
        refine .inl ⟨hβ, rfl, rfl, rfl, rfl, ?_, _, by simp; rfl⟩
        cases cap with
        | none => rfl
        | some k => simp at hcp; simp [hcp]
      | some mv =>
        obtain ⟨jm, hmx⟩ := somemax rfl
        cases h with
        | none => exact hs.elim
        | some hv =>
          obtain ⟨jh, hhx⟩ := somehi rfl
          obtain ⟨hmb, hs⟩ := hs
          have hmb := of_decide_eq_true hmb
          rw [hcp] at hmb
          obtain ⟨l', h', hle, hx0, hx1, hx2, hs, hrun⟩ := cut3_sound (w := w) (top' := 0) hl rfl rfl hmb.1 hmb.2 (.inl rfl) (vhi := .int jh hv) (vm := .int jm mv) hs
          have : mv.toNat = 0 := by omega
          rw [this] at hx0 hrun hs
          have : h' = 0 := by omega
          subst this
          have : l' = 0 := by omega
          subst this
          rw [run hc (by rw [hmx, hhx]; exact hrun)]
          refine Out.same hr ?_ hs
          simp only [AV.val, AV.leaf]
          exact .inl ⟨hβ, rfl, rfl, rfl, rfl, by simp, _, by simp; rfl⟩
    · have hc : a.eval x' = .slice base len c := by simpa using hc
      obtain ⟨hes, rl, hs9, hrl⟩ := eszK_sound hs hr hβ
      subst hes
      have hs := hs9
      have moved {l' h' m' : Nat} (hl1 : l' ≤ h') (hm1 : h' ≤ m') (hm2 : m' ≤ c) (h4 : ∀ n', nn = some n' → off + h' ≤ n') (capN : Option Nat)
          (hcn : match capN with
            | some k => m' - l' = k
            | none => o' = 0 ∧ p = [] ∧ off + l' ≤ rc ∧ m' - l' = rc - (off + l')) (hcn2 : ∀ n', nn = some n' → off + l' + capN.getD 0 ≤ n') :
          AV.val e (.sl b o' p (off + l') (h' - l') capN) (.slice (if m' = l' then base else base.map (·.add (l' * es))) (h' - l') (m' - l')) := by
        simp only [AV.val, AV.leaf]
        refine .inr ⟨blk, es, rc, nn, _, _, hβ, rfl, by omega, fun n' hn' => ⟨by have := h4 n' hn'; omega, (hin n' hn').2.1, hcn2 n' hn'⟩, hcn, ?_⟩
        by_cases hml : m' = l'
        · left; omega
        · right
          rw [if_neg hml]
          rcases hbase with hz | hz
          · omega
          · rw [hz]; simp [add_off, Nat.add_mul, Nat.add_assoc]
      have htop : cap.getD (max len (rl - off)) ≤ c ∧ len ≤ c := by
        refine ⟨?_, hle0⟩
        cases cap with
        | none =>
          simp only at hcap
          simp only [Option.getD_none]
          rcases hrl with rfl | ⟨_, h2⟩ <;> omega
        | some k => simp only at hcap; simp [hcap]
      have htop2 : cap.getD len ≤ c := by
        cases cap with
        | none => exact hle0
        | some k => simp only at hcap; simp [hcap]
      cases m with
      | none =>
        have hmx := nomax rfl
        obtain ⟨l', h', hle, hn, hx1, hs, hrun⟩ := cut_sound (w := w) hl hh htop.1 hs
        have hx2 : h' ≤ c ∧ ∀ n', nn = some n' → off + h' ≤ n' := by
          cases h with
          | none => rw [hn rfl]; exact ⟨hle0, fun n' hn' => (hin n' hn').1⟩
          | some v =>
            have := (hx1 _ rfl).1
            refine ⟨by omega, fun n' hn' => ?_⟩
            obtain ⟨g1, _, g2⟩ := hin n' hn'
            cases cap with
            | none =>
              simp only [Option.getD_none] at this
              rcases hrl with rfl | ⟨h2, h3⟩
              · omega
              · rw [hn'] at h2
                obtain rfl := Option.some.inj h2
                omega
            | some k => simp only [Option.getD_some] at this g2; omega
        rw [run hc (by rw [hmx]; exact hrun)]
        refine Out.same hr (moved hle hx2.1 (Nat.le_refl _) hx2.2 _ ?_ (fun n' hn' => ?_)) hs
        · cases cap with
          | none => simp only at hcap ⊢; refine ⟨hcap.1, hcap.2.1, ?_, ?_⟩ <;> omega
          | some k => simp only at hcap ⊢; omega
        · obtain ⟨g1, _, g2⟩ := hin n' hn'
          have := hx2.2 n' hn'
          cases cap with
          | none => simp only [Option.getD_none]; omega
          | some k => simp only at hcap; simp only [Option.getD_some] at g2 ⊢; omega
      | some mv =>
        obtain ⟨jm, hmx⟩ := somemax rfl
        cases h with
        | none => exact hs.elim
        | some hv =>
          obtain ⟨jh, hhx⟩ := somehi rfl
          obtain ⟨hmb, hs⟩ := hs
          have hmb := of_decide_eq_true hmb
          obtain ⟨l', h', hle, hx0, hx1, hx2, hs, hrun⟩ := cut3_sound (w := w) (top' := c) hl rfl rfl hmb.1 (by omega) (.inl rfl) (vhi := .int jh hv) (vm := .int jm mv) hs
          rw [run hc (by rw [hmx, hhx]; exact hrun)]
          refine Out.same hr (moved hle hx0 (by omega) (fun n' hn' => ?_) _ (by simp) (fun n' hn' => ?_)) hs
          · obtain ⟨g1, _, g2⟩ := hin n' hn'
            cases cap with
            | none => simp only [Option.getD_none] at hmb; omega
            | some k => simp only [Option.getD_some] at hmb g2; omega
          · obtain ⟨g1, _, g2⟩ := hin n' hn'
            cases cap with
            | none => simp only [Option.getD_none, Option.getD_some] at hmb ⊢; omega
            | some k => simp only [Option.getD_some] at hmb g2 ⊢; omega
  · exact hs.elim
end Stk
end
