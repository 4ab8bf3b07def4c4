/- The framework, part 3: when compact code fits the program's code; what the evaluator's trees say; what memory steps do. -/
import Derived.Test.YthkbahbbdacgeaaDoorFw2
namespace Stk
open Go

/-! ### Fitting: constants -/
mutual
/-- Data against cells: what is left behind them. -/
def chkT : Tr → List Value → Option (List Value)
  | .bool b, .bool c :: r => if b == c then some r else none
  | .int k n, .int j i :: r => if kindEq k j && n == i then some r else none
  | .str s, .string u :: r => if s.data.toList == u.data.toList then some r else none
  | .nilp, .pointer none :: r => some r
  | .nilm, .map none :: r => some r
  | .nilf, .nilFunc :: r => some r
  | .nili, .nilIface :: r => some r
  | .sl _ _ xs, .slice none 0 0 :: r => if xs.isEmpty then some r else none
  | .agg xs, cs => chkTs xs cs
  | .arr n xs, cs => if xs.length == n then chkOnes xs cs else none
  | _, _ => none
def chkTs : List Tr → List Value → Option (List Value)
  | [], cs => some cs
  | x :: xs, cs => match chkT x cs with
    | some r => chkTs xs r
    | none => none
def chkOnes : List Tr → List Value → Option (List Value)
  | [], cs => some cs
  | x :: xs, cs => if x.isAgg then none else match chkT x cs with
    | some r => chkOnes xs r
    | none => none
end

theorem kindEq_eq {j k : IntKind} (h : kindEq j k = true) : j = k := by cases j <;> cases k <;> first | rfl | simp [kindEq] at h

mutual
theorem chkT_rel {m : Nat → Option (List Value)} : ∀ {x : Tr} {cs r : List Value}, chkT x cs = some r → ∃ a, cs = a ++ r ∧ Tr.rel m x a
  | .bool b, cs, r, h => by
    cases cs with
    | nil => simp [chkT] at h
    | cons c r' =>
      cases c <;> simp [chkT] at h
      obtain ⟨rfl, rfl⟩ := h
      exact ⟨[_], rfl, by simp [Tr.rel]⟩
  | .int k n, cs, r, h => by
    cases cs with
    | nil => simp [chkT] at h
    | cons c r' =>
      cases c <;> simp [chkT] at h
      obtain ⟨⟨h1, rfl⟩, rfl⟩ := h
      exact ⟨[_], rfl, by simp [Tr.rel, kindEq_eq h1]⟩
  | .str s, cs, r, h => by
    cases cs with
    | nil => simp [chkT] at h
    | cons c r' =>
      cases c <;> simp [chkT] at h
      rename_i u
      obtain ⟨h1, rfl⟩ := h
      refine ⟨[.string u], rfl, ?_⟩
      simp only [Tr.rel]
      have : s = u := by cases s; cases u; simpa using h1
      rw [this]
  | .nilp, cs, r, h => by unfold chkT at h; split at h <;> simp_all; exact ⟨[_], rfl, by simp [Tr.rel]⟩
  | .nilm, cs, r, h => by unfold chkT at h; split at h <;> simp_all; exact ⟨[_], rfl, by simp [Tr.rel]⟩
  | .nilf, cs, r, h => by unfold chkT at h; split at h <;> simp_all; exact ⟨[_], rfl, by simp [Tr.rel]⟩
  | .nili, cs, r, h => by unfold chkT at h; split at h <;> simp_all; exact ⟨[_], rfl, by simp [Tr.rel]⟩
  | .sl f e xs, cs, r, h => by
    unfold chkT at h; split at h <;> simp_all
    exact ⟨[_], rfl, by simp only [Tr.rel]; exact ⟨none, 0, rfl, fun _ => rfl, Nat.le_refl _, Or.inl (by trivial)⟩⟩
  | .agg xs, cs, r, h => by
    simp only [chkT] at h
    simp only [Tr.rel]; exact chkTs_rel h
  | .arr n xs, cs, r, h => by
    simp only [chkT] at h
    split at h
    · rename_i hn
      simp only [Tr.rel]; obtain ⟨a, ha, hr⟩ := chkOnes_rel h; exact ⟨a, ha, by simpa using hn, hr⟩
    · cases h
theorem chkTs_rel {m : Nat → Option (List Value)} : ∀ {xs : List Tr} {cs r : List Value}, chkTs xs cs = some r → ∃ a, cs = a ++ r ∧ Tr.rels m xs a
  | [], cs, r, h => by simp only [chkTs, Option.some.injEq] at h; exact ⟨[], by simp [h], by simp [Tr.rels]⟩
  | x :: xs, cs, r, h => by
    simp only [chkTs] at h
    split at h
    · rename_i r' hx
      obtain ⟨a, rfl, ha⟩ := chkT_rel (m := m) hx
      obtain ⟨b, rfl, hb⟩ := chkTs_rel h
      exact ⟨a ++ b, by simp, by simp only [Tr.rels]; exact ⟨a, b, rfl, ha, hb⟩⟩
    · cases h
theorem chkOnes_rel {m : Nat → Option (List Value)} : ∀ {xs : List Tr} {cs r : List Value}, chkOnes xs cs = some r → ∃ a, cs = a ++ r ∧ Tr.ones m xs a
  | [], cs, r, h => by simp only [chkOnes, Option.some.injEq] at h; exact ⟨[], by simp [h], by simp [Tr.ones]⟩
  | x :: xs, cs, r, h => by
    simp only [chkOnes] at h
    split at h
    · cases h
    · rename_i hx1
      split at h
      · rename_i r' hx
        obtain ⟨a, rfl, ha⟩ := chkT_rel (m := m) hx
        obtain ⟨b, rfl, hb⟩ := chkOnes_rel h
        have hl := Tr.rel_length ha
        have : x.sz = 1 := by cases x <;> first | rfl | simp [Tr.isAgg] at hx1
        rw [this] at hl
        match a, hl, ha with
        | [c], _, ha => exact ⟨c :: b, by simp, by simp only [Tr.ones]; exact ⟨c, b, rfl, by simpa using hx1, ha, hb⟩⟩
      · cases h
end

def chkV : AV → Value → Bool
  | .tup [], .tuple vs => vs.isEmpty
  | .t x, .agg cs => x.isAgg && (chkT x cs.toList matches some [])
  | .t x, v => !x.isAgg && (chkT x [v] matches some [])
  | _, _ => false

theorem chkV_val {e : Env} {v : AV} {c : Value} (h : chkV v c = true) : AV.val e v c := by
  unfold chkV at h
  split at h
  · rename_i vs
    simp only [AV.val]; exact ⟨vs, rfl, by simp at h; simp [AV.vals, h]⟩
  · rename_i x cs
    simp only [Bool.and_eq_true] at h
    obtain ⟨h1, h2⟩ := h
    split at h2
    · rename_i hc
      obtain ⟨a, ha, hr⟩ := chkT_rel (m := e.ro) hc
      simp only [AV.val, h1]
      exact ⟨cs, rfl, by rw [ha, List.append_nil]; exact hr⟩
    · simp at h2
  · rename_i x v _
    simp only [Bool.and_eq_true, Bool.not_eq_true'] at h
    obtain ⟨h1, h2⟩ := h
    split at h2
    · rename_i hc
      obtain ⟨a, ha, hr⟩ := chkT_rel (m := e.ro) hc
      simp only [AV.val, h1]
      rw [List.append_nil] at ha; rw [ha]; exact hr
    · simp at h2
  · cases h

mutual
def Tr.same : Tr → Tr → Bool
  | .bool a, .bool b => a == b
  | .int j a, .int k b => kindEq j k && a == b
  | .str a, .str b => a.data.toList == b.data.toList
  | .nilp, .nilp | .nilm, .nilm | .nilf, .nilf | .nili, .nili => true
  | .sl f e xs, .sl f' e' ys => f == f' && e == e' && Tr.sames xs ys
  | .agg xs, .agg ys => Tr.sames xs ys
  | .arr n xs, .arr n' ys => n == n' && Tr.sames xs ys
  | _, _ => false
def Tr.sames : List Tr → List Tr → Bool
  | [], [] => true
  | x :: xs, y :: ys => x.same y && Tr.sames xs ys
  | _, _ => false
end
mutual
theorem Tr.same_eq : ∀ {x y : Tr}, x.same y = true → x = y
  | .bool a, y, h => by cases y <;> simp_all [Tr.same]
  | .int j a, y, h => by
    cases y <;> simp_all [Tr.same]
    exact kindEq_eq h.1
  | .str a, y, h => by
    cases y <;> simp_all [Tr.same]
    rename_i s; cases a; cases s; simp_all
  | .nilp, y, h => by cases y <;> simp_all [Tr.same]
  | .nilm, y, h => by cases y <;> simp_all [Tr.same]
  | .nilf, y, h => by cases y <;> simp_all [Tr.same]
  | .nili, y, h => by cases y <;> simp_all [Tr.same]
  | .sl f e xs, y, h => by
    cases y <;> simp [Tr.same] at h
    simp [h.1.1, h.1.2, Tr.sames_eq h.2]
  | .agg xs, y, h => by
    cases y <;> simp [Tr.same] at h
    simp [Tr.sames_eq h]
  | .arr n xs, y, h => by
    cases y <;> simp [Tr.same] at h
    simp [h.1, Tr.sames_eq h.2]
theorem Tr.sames_eq : ∀ {xs ys : List Tr}, Tr.sames xs ys = true → xs = ys
  | [], ys, h => by cases ys <;> simp_all [Tr.sames]
  | x :: xs, ys, h => by
    cases ys <;> simp [Tr.sames] at h
    simp [Tr.same_eq h.1, Tr.sames_eq h.2]
end

def chkOpd (G : Gl) : Opd → Operand → Bool
  | .tmp t, .tmp t' => t == t'
  | .con v, .const c => chkV v c
  | .fn f, .func f' => f == f'
  | .glob g x, .global g' => g == g' && G.any fun p => p.1 == g && p.2.same x
  | _, _ => false

def Opd.at (fr : Fr) : Opd → AV
  | .tmp t => fr.at t
  | .con v => v
  | .fn f => .fn f [] []
  | .glob _ x => .vp x

theorem chkOpd_val {G : Gl} {N : Nat} {e : Env} {H : Hp} {w : World} {fr : Fr} {a : Act} (hr : Rel G e H w) (hf : FrR N e fr a) {x : Opd} {y : Operand} (h : chkOpd G x y = true) : AV.val e (x.at fr) (a.eval y) := by
  unfold chkOpd at h
  split at h
  · simp at h; subst h; exact hf.slot _
  · exact chkV_val h
  · simp at h; subst h; simp only [Opd.at, AV.val, Act.eval]; exact ⟨#[], #[], rfl, by simp [AV.vals], by simp [AV.vals]⟩
  · rename_i g x g'
    simp only [Bool.and_eq_true, List.any_eq_true, beq_iff_eq] at h
    obtain ⟨rfl, ⟨g0, x0⟩, hm, h1, h2⟩ := h
    simp only at h1 h2
    subst h1
    obtain rfl := Tr.same_eq h2
    obtain ⟨m, hm1, hm2⟩ := hr.gl _ _ hm
    simp only [Opd.at, AV.val, AV.leaf, Act.eval]
    exact ⟨_, m, m, rfl, rfl, .inl hm1, Sub.refl m, hm2⟩
  · cases h

/-! ### Looking up in continuation form -/
theorem lk_eq (t : Nat) (k : AV → T) : ∀ fr : Fr, lk t k fr = k (fr.at t)
  | [] => rfl
  | (n, v) :: r => by
    simp only [lk, Fr.at]
    cases Nat.beq n t with
    | true => rfl
    | false => exact lk_eq t k r
theorem evK_eq (fr : Fr) (x : Opd) (k : AV → T) : evK fr x k = k (x.at fr) := by cases x <;> simp [evK, Opd.at, lk_eq]
theorem evsK_eq (fr : Fr) : ∀ (xs : List Opd) (k : List AV → T), evsK fr xs k = k (xs.map (·.at fr))
  | [], k => rfl
  | x :: xs, k => by simp only [evsK, evK_eq, evsK_eq fr xs]; rfl
theorem litB_eq (n : Nat) (k : Nat → T) : litB n k = k n := by unfold litB; split <;> rfl
theorem litK_eq (n : Nat) (k : Nat → T) : litK n k = k n := by unfold litK; split <;> first | rfl | exact litB_eq _ k
theorem nthK_eq {α : Type} (k : α → T) : ∀ (n : Nat) (xs : List α), nthK k n xs = match xs[n]? with
    | some x => k x
    | none => .stuck "nth"
  | 0, [] => rfl
  | n + 1, [] => rfl
  | 0, x :: _ => rfl
  | n + 1, _ :: xs => by simp only [nthK, nthK_eq k n xs, List.getElem?_cons_succ]
theorem setK_eq {α : Type} (v : α) : ∀ (n : Nat) (xs : List α) (k : List α → T), setK v n xs k = if n < xs.length then k (xs.set n v) else .stuck "set"
  | 0, [], k => by simp [setK]
  | n + 1, [], k => by simp [setK]
  | 0, x :: xs, k => by simp [setK]
  | n + 1, x :: xs, k => by simp [setK, setK_eq v n xs]
theorem snocK_eq {α : Type} (v : α) : ∀ (xs : List α) (k : List α → T), snocK v xs k = k (xs ++ [v])
  | [], k => rfl
  | x :: xs, k => by simp only [snocK, snocK_eq v xs]; rfl
theorem newK_eq (o : AO) (H : Hp) (k : Nat → Hp → T) : newK o H k = k H.length (H ++ [o]) := by simp [newK, litK_eq, snocK_eq]

/-! ### What a tree says -/
def Callable (P : Program) (f : FuncId) : Prop := ∃ fn, P.funcs[f]? = some fn ∧ (fn.name == "runtime.NumGoroutine") = false ∧ fn.body.isNone = false
def ACalls (P : Program) (G : Gl) (f : FuncId) (args : List AV) (H : Hp) (Q : AV → Hp → Prop) : Prop := Callable P f ∧
  ∀ e w cargs, Rel G e H w → AV.vals e args cargs.toList →
    Calls P f cargs w fun en w' => ∃ r c e' H', en = .returned c ∧ Q r H' ∧ AV.val e' r c ∧ Step G e H w e' H' w'

/-- As Step, but that rows have lost their old names. -/
structure StepL (G : Gl) (mv : List Nat) (e : Env) (H : Hp) (w : World) (e' : Env) (H' : Hp) (w' : World) : Prop where
  rel : Rel G e' H' w'
  β : ∀ (b : Nat) (o : AO), H[b]? = some o → mvd mv b o = false → o ≠ .gone → e'.β b = e.β b
  ro : MemLe e.ro e'.ro
  bo : e'.bo = e.bo
  wle : WLe (fun k => ¬ Owns e H k) w w'
  own : ∀ k, Owns e' H' k → k < w.heap.size → Owns e H k
  frz : ∀ k m, e'.ro k = some m → k < w.heap.size → e.ro k = some m ∨ Owns e H k
  keep : ∀ (b : Nat) (o : AO), H[b]? = some o → mvd mv b o = false → o ≠ .gone → ∃ o', H'[b]? = some o' ∧ mvd mv b o' = false

def ExR : Exit → Ex → Prop
  | .normal, .normal => True
  | .exit i, .exit j => i = j
  | .ret, .ret => True
  | _, _ => False

def IC.isSkip : IC → Bool
  | .skip => true
  | _ => false
/-- Does compact code fit code? (The operations' fitting is handed in.) -/
def chkC (ops : Bool → Array Oper → List IOp → Bool) (G : Gl) : IC → Code → Bool
  | .skip, .skip => true
  | .skip, .label _ => true
  | .reg is, .region _ os false => ops false os is
  | .dreg is, .region _ os true => ops true os is
  | .seq a b, .seq x y => chkC ops G a x && chkC ops G b y
  | .seq a b, .scope x => b.isSkip && chkC ops G a x
  | .cond c a b, .cond c' x y => chkOpd G c c' && chkC ops G a x && chkC ops G b y
  | .block i a, .block j x => i == j && chkC ops G a x
  | .loop _ _ _ a, .loop x => chkC ops G a x
  | .exit i, .exit j => i == j
  | .ret, .ret => true
  | _, _ => false

/-- The place: the program, its globals that are read, how many slots the frame has, what fitting is for regions. -/
structure Cx where
  P : Program
  G : Gl
  N : Nat
  ops : Bool → Array Oper → List IOp → Bool

def ALoop (X : Cx) (mv : List Nat) (c : IC) (fr : Fr) (H : Hp) (Q : Ex → Fr → Hp → Prop) : Prop :=
  ∀ code, chkC X.ops X.G c code = true → ∀ e w a, Rel X.G e H w → FrR X.N e fr a →
    (Code.loop code).wp X.P (fun ex a' w' => ∃ ex' fr' e' H', ExR ex ex' ∧ Q ex' fr' H' ∧ FrR X.N e' fr' a' ∧ StepL X.G mv e H w e' H' w') a w

def sat (X : Cx) (Q : Ex → Fr → Hp → Prop) : T → Prop
  | .ret e fr H => Q e fr H
  | .stuck _ => False
  | .br b t e => (b = true → sat X Q t) ∧ (b = false → sat X Q e)
  | .any t e => sat X Q t ∧ sat X Q e
  | .asrt b k => b = true ∧ sat X Q k
  | .idx xs i k => ∃ x, 0 ≤ i ∧ xs[i.toNat]? = some x ∧ sat X Q (k x)
  | .rng k n f => sat X Q (f (k.wrap n))
  | .eqv v v' k => v = v' ∧ sat X Q k
  | .call f args H k => ∃ Q', ACalls X.P X.G f args H Q' ∧ ∀ r H', Q' r H' → sat X Q (k r H')
  | .loop _ _ mv c fr H k => ∃ Q', ALoop X mv c fr H Q' ∧ ∀ e fr' H', Q' e fr' H' → sat X Q (k e fr' H')

/-! ### Cells of a block -/
section
variable {P : Program} {w : World} {k : Nat} {cs : Array Value} {t : TypeId} {fz : Nat × Nat}

theorem cell_of (h : w.heap[k]? = some (.cells cs t fz)) (o : Nat) : w.cell? ⟨k, o, none⟩ = cs[o]? := by simp [World.cell?, h]
theorem frozen_of (h : w.heap[k]? = some (.cells cs t fz)) (hz : NoFz cs.size fz) {o : Nat} (ho : o < cs.size) : w.frozen? ⟨k, o, none⟩ = false := by
  simp only [World.frozen?, h]
  have := hz.2 o ho
  simp; intro h1; omega

theorem run_loadCells_sub (h : w.heap[k]? = some (.cells cs t fz)) {o : Nat} {mid : List Value} (hs : Sub cs.toList o mid) :
    (loadCells ⟨k, o, none⟩ mid.length).run P w = .ok mid.toArray w := by
  refine run_loadCells_list (P := P) w ⟨k, o, none⟩ mid fun j v hj => ?_
  have : (⟨k, o, none⟩ : Addr).add j = ⟨k, o + j, none⟩ := by unfold Addr.add; split <;> simp_all
  rw [this, cell_of h]
  have := hs.get hj
  simpa using this

def World.setBlk (w : World) (k : Nat) (ob : Obj) : World := { w with heap := w.heap.setIfInBounds k ob }

theorem setBlk_get (w : World) (k : Nat) (ob : Obj) (j : Nat) : (World.setBlk w k ob).heap[j]? = if j = k ∧ k < w.heap.size then some ob else w.heap[j]? := by
  simp only [World.setBlk, Array.getElem?_setIfInBounds]
  by_cases hj : k = j
  · subst hj
    by_cases hk : k < w.heap.size
    · simp [hk]
    · simp [hk]
  · rw [if_neg hj, if_neg (by omega)]
theorem setBlk_size (w : World) (k : Nat) (ob : Obj) : (World.setBlk w k ob).heap.size = w.heap.size := by simp [World.setBlk]

theorem setCell_eq (h : w.heap[k]? = some (.cells cs t fz)) (o : Nat) (v : Value) : w.setCell ⟨k, o, none⟩ v = World.setBlk w k (.cells (cs.setIfInBounds o v) t fz) := by
  have hk : k < w.heap.size := by
    rcases Nat.lt_or_ge k w.heap.size with h' | h'
    · exact h'
    · simp [Array.getElem?_eq_none h'] at h
  unfold World.setCell World.setBlk
  congr 1
  apply Array.ext_getElem?
  intro j
  rw [Array.getElem?_modify, Array.getElem?_setIfInBounds]
  by_cases hj : k = j
  · subst hj; rw [if_pos rfl, h]; simp [hk]
  · simp [hj]

theorem setBlk_setBlk (w : World) (k : Nat) (a b : Obj) : World.setBlk (World.setBlk w k a) k b = World.setBlk w k b := by
  simp only [World.setBlk]
  congr 1
  apply Array.ext_getElem?
  intro j
  simp only [Array.getElem?_setIfInBounds, Array.size_setIfInBounds]
  by_cases hj : k = j
  · subst hj; simp
  · simp [hj]

theorem setBlk_self (h : w.heap[k]? = some (.cells cs t fz)) : World.setBlk w k (.cells cs t fz) = w := by
  have hk : k < w.heap.size := by
    rcases Nat.lt_or_ge k w.heap.size with h' | h'
    · exact h'
    · simp [Array.getElem?_eq_none h'] at h
  unfold World.setBlk
  cases w
  simp only at *
  congr 1
  apply Array.ext_getElem?
  intro j
  simp only [Array.getElem?_setIfInBounds]
  by_cases hj : k = j
  · subst hj; rw [if_pos rfl, h]; simp [hk]
  · simp [hj]

theorem over_step (cs : List Value) (o : Nat) (v : Value) (r : List Value) (h : o + r.length + 1 ≤ cs.length) : over (cs.set o v) (o + 1) r = over cs o (v :: r) := by
  simp only [over, List.length_cons]
  have h1 : (cs.set o v).take (o + 1) = cs.take o ++ [v] := by
    rw [List.set_eq_take_append_cons_drop, if_pos (by omega), List.take_append, List.take_of_length_le (by simp; omega)]
    have : (cs.take o).length = o := by simp; omega
    rw [this]; simp
  have h2 : (cs.set o v).drop (o + 1 + r.length) = cs.drop (o + (r.length + 1)) := by
    rw [List.drop_set_of_lt (by omega)]; congr 1; omega
  rw [h1, h2]; simp

theorem run_storeCells_over (o : Nat) : ∀ (vs : List Value) (i : Nat) (cs : Array Value) (w : World), w.heap[k]? = some (.cells cs t fz) → NoFz cs.size fz → o + i + vs.length ≤ cs.size → Ones vs →
    (storeCells ⟨k, o, none⟩ vs i).run P w = .ok () (World.setBlk w k (.cells (over cs.toList (o + i) vs).toArray t fz))
  | [], i, cs, w, h, _, _, _ => by
    have : (over cs.toList (o + i) []).toArray = cs := by simp [over]
    rw [this, setBlk_self h]; rfl
  | v :: r, i, cs, w, h, hz, hl, h1 => by
    simp only [List.length_cons] at hl
    have hadd : (⟨k, o, none⟩ : Addr).add i = ⟨k, o + i, none⟩ := by unfold Addr.add; split <;> simp_all
    have hlt : o + i < cs.size := by omega
    have hk : k < w.heap.size := by
      rcases Nat.lt_or_ge k w.heap.size with h' | h'
      · exact h'
      · simp [Array.getElem?_eq_none h'] at h
    have hst : (store ((⟨k, o, none⟩ : Addr).add i) v).run P w = .ok () (w.setCell ⟨k, o + i, none⟩ v) := by
      rw [hadd, run_store P w _ v _ (h1 v (by simp)), cell_of h, Array.getElem?_eq_getElem hlt]
      simp [frozen_of h hz hlt]
    have ih := run_storeCells_over o r (i + 1) (cs.setIfInBounds (o + i) v) (w.setCell ⟨k, o + i, none⟩ v)
      (by rw [setCell_eq h, setBlk_get]; simp [hk]) (by simpa using hz) (by simp; omega) (fun c hc => h1 c (by simp [hc]))
    simp only [storeCells, Sem.run_bind, hst, Result.andThen]
    rw [ih, setCell_eq h, setBlk_setBlk]
    congr 4
    have := over_step cs.toList (o + i) v r (by simp; omega)
    simp only [Array.toList_setIfInBounds]
    exact this
end

end Stk
