/- The framework: drawn regions. -/
import Derived.Test.YthkbahbbdacgeaaDoorFw16
import Derived.Orders
namespace Stk
open Go
variable {X : Cx} {Q : Ex → Fr → Hp → Prop} {e : Env} {H : Hp} {w : World}

def preOf (ds : List IOp) (i : Nat) : List Nat :=
  match ds[i]? with
  | some d => d.pre
  | none => []
def bindE (e : Edge) : Bool := Region.binds .any e
/-- Does nobody but who must write slot t, that number i looks at? -/
def okLook (i : Nat) (d : IOp) (t : Nat) : Nat → List IOp → Bool
  | _, [] => true
  | k, x :: xs => (!(optEq x.dst (some t)) || nameIn k d.pre || (x.eff && (Nat.beq k i || nameIn i x.pre))) && okLook i d t (k + 1) xs
def okDst (i : Nat) (d : IOp) : Nat → List IOp → Bool
  | _, [] => true
  | k, x :: xs => (Nat.beq k i || d.dst.isNone || !(optEq x.dst d.dst)) && okDst i d (k + 1) xs
def chkD1 (P : Program) (G : Gl) (N : Nat) (ops : Array Oper) (ds : List IOp) (i : Nat) (o : Oper) (d : IOp) : Bool :=
  chkIop P G N ops o d && o.after.toList.all (fun e => !(bindE e) || Nat.blt e.on i) &&
  d.pre.all (fun x => Nat.blt x i && o.after.toList.any fun e => bindE e && (Nat.beq e.on x || nameIn x (preOf ds e.on))) &&
  (o.looksAt ops).all (fun t => okLook i d t 0 ds) && okDst i d 0 ds && (d.eff || d.op.ro)
def chkDs (P : Program) (G : Gl) (N : Nat) (ops : Array Oper) (ds : List IOp) : Nat → List Oper → List IOp → Bool
  | _, [], [] => true
  | i, o :: os, d :: r => chkD1 P G N ops ds i o d && chkDs P G N ops ds (i + 1) os r
  | _, _, _ => false
def chkD (P : Program) (G : Gl) (N : Nat) (ops : Array Oper) (ds : List IOp) : Bool := P.follows .mixedOrders && chkDs P G N ops ds 0 ops.toList ds

/-! ### What the checker says -/
structure D1 (X : Cx) (ops : Array Oper) (ds : List IOp) (i : Nat) (o : Oper) (d : IOp) : Prop where
  iop : chkIop X.P X.G X.N ops o d = true
  back : ∀ x ∈ o.after.toList, bindE x = true → x.on < i
  pre : ∀ x ∈ d.pre, x < i ∧ ∃ e ∈ o.after.toList, bindE e = true ∧ (e.on = x ∨ x ∈ preOf ds e.on)
  look : ∀ t ∈ o.looksAt ops, ∀ (k : Nat) (x : IOp), ds[k]? = some x → x.dst = some t → k ∈ d.pre ∨ (x.eff = true ∧ (k = i ∨ i ∈ x.pre))
  dst : ∀ (k : Nat) (x : IOp) t, ds[k]? = some x → d.dst = some t → x.dst = some t → k = i
  ro : d.eff = false → d.op.ro = true

theorem okLook_spec {i : Nat} {d : IOp} {t : Nat} : ∀ {l : List IOp} {n : Nat}, okLook i d t n l = true → ∀ (k : Nat) (x : IOp), l[k]? = some x → x.dst = some t → n + k ∈ d.pre ∨ (x.eff = true ∧ (n + k = i ∨ i ∈ x.pre))
  | [], n, _, k, x, hx, _ => by simp at hx
  | y :: ys, n, h, k, x, hx, hd => by
    simp only [okLook, Bool.and_eq_true, Bool.or_eq_true, Bool.not_eq_true'] at h
    obtain ⟨h1, h2⟩ := h
    cases k with
    | zero =>
      simp at hx; subst hx
      rcases h1 with (h1 | h1) | h1
      · rw [hd] at h1; simp [optEq] at h1
      · exact .inl ((nameIn_iff _ _).1 h1)
      · exact .inr ⟨h1.1, h1.2.imp (fun h => beq_eq h) (fun h => (nameIn_iff _ _).1 h)⟩
    | succ k =>
      have := okLook_spec h2 k x (by simpa using hx) hd
      rw [show n + (k + 1) = n + 1 + k by omega]; exact this
theorem okDst_spec {i : Nat} {d : IOp} : ∀ {l : List IOp} {n : Nat}, okDst i d n l = true → ∀ (k : Nat) (x : IOp) t, l[k]? = some x → d.dst = some t → x.dst = some t → n + k = i
  | [], n, _, k, x, t, hx, _, _ => by simp at hx
  | y :: ys, n, h, k, x, t, hx, hd, hxd => by
    simp only [okDst, Bool.and_eq_true, Bool.or_eq_true, Bool.not_eq_true'] at h
    obtain ⟨h1, h2⟩ := h
    cases k with
    | zero =>
      simp at hx; subst hx
      rcases h1 with (h1 | h1) | h1
      · exact beq_eq h1
      · rw [hd] at h1; cases h1
      · rw [hd, hxd] at h1; simp [optEq] at h1
    | succ k =>
      have := okDst_spec h2 k x t (by simpa using hx) hd hxd
      omega
theorem chkD1_spec {ops : Array Oper} {ds : List IOp} {i : Nat} {o : Oper} {d : IOp} (h : chkD1 X.P X.G X.N ops ds i o d = true) : D1 X ops ds i o d := by
  simp only [chkD1, Bool.and_eq_true, Bool.or_eq_true, List.all_eq_true, List.any_eq_true] at h
  obtain ⟨⟨⟨⟨⟨h1, h2⟩, h3⟩, h4⟩, h5⟩, h6⟩ := h
  refine ⟨h1, fun x hx hb => (by
    rcases h2 x hx with h | h
    · rw [hb] at h; cases h
    · exact Nat.le_of_ble_eq_true h), fun x hx => ?_, fun t ht k x hk hx => ?_, fun k x t hk hd hx => ?_, fun he => ?_⟩
  · obtain ⟨g1, ed, g2, g3, g4⟩ := h3 x hx
    exact ⟨Nat.le_of_ble_eq_true g1, ed, g2, g3, g4.imp (fun h => beq_eq h) (fun h => (nameIn_iff _ _).1 h)⟩
  · have := okLook_spec (h4 t ht) k x hk hx
    simpa using this
  · have := okDst_spec h5 k x t hk hd hx
    simpa using this
  · rcases h6 with h6 | h6
    · rw [he] at h6; cases h6
    · exact h6
theorem chkDs_spec {ops : Array Oper} {ds : List IOp} : ∀ {os : List Oper} {r : List IOp} {n : Nat}, chkDs X.P X.G X.N ops ds n os r = true → r.length = os.length ∧ ∀ (k : Nat) o d, os[k]? = some o → r[k]? = some d → D1 X ops ds (n + k) o d
  | [], [], n, _ => ⟨rfl, fun k o d h _ => by simp at h⟩
  | [], _ :: _, n, h => by simp [chkDs] at h
  | _ :: _, [], n, h => by simp [chkDs] at h
  | o :: os, d :: r, n, h => by
    simp only [chkDs, Bool.and_eq_true] at h
    obtain ⟨h1, h2⟩ := chkDs_spec h.2
    refine ⟨by simp [h1], fun k o' d' ho hd => ?_⟩
    cases k with
    | zero => simp at ho hd; subst ho hd; exact chkD1_spec h.1
    | succ k => rw [show n + (k + 1) = n + 1 + k by omega]; exact h2 k o' d' (by simpa using ho) (by simpa using hd)

/-- The region, as the checker saw it. -/
structure DR (X : Cx) (ops : Array Oper) (ds : List IOp) : Prop where
  mixed : X.P.follows .mixedOrders = true
  len : ds.length = ops.size
  one : ∀ (k : Nat) o d, ops[k]? = some o → ds[k]? = some d → D1 X ops ds k o d
theorem chkD_spec {ops : Array Oper} {ds : List IOp} (h : chkD X.P X.G X.N ops ds = true) : DR X ops ds := by
  simp only [chkD, Bool.and_eq_true] at h
  obtain ⟨h1, h2⟩ := chkDs_spec h.2
  exact ⟨h.1, by simpa using h1, fun k o d ho hd => by have := h2 k o d (by simpa using ho) hd; simpa using this⟩

/-- What an operation without effect gives, in this world, at these slots. -/
def Yc (P : Program) (ops : Array Oper) (o : Oper) (a : Act) (w : World) (c : Value) : Prop :=
  (Region.wanted o (yielded ops a.tmps) = true ∧ ((execOp a.eval o).run P w = .ok (.value c) w ∨ ((execOp a.eval o).run P w = .ok .skip w ∧ c = undef))) ∨
  (Region.wanted o (yielded ops a.tmps) = false ∧ c = undef)

theorem read_sound {ops : Array Oper} {ds : List IOp} {i : Nat} {o : Oper} {d : IOp} (h1 : D1 X ops ds i o d) (he : d.eff = false) {fr : Fr} {a : Act} (hr : Rel X.G e H w) (hf : FrR X.N e fr a) {k : Fr → Hp → T} (h : sat X Q (iopT d fr H k)) :
    ∃ fr' c, FrR X.N e fr' (a.put o.dst c) ∧ Yc X.P ops o a w c ∧ sat X Q (k fr' H) := by
  have hc := h1.iop
  simp only [chkIop, Bool.and_eq_true] at hc
  obtain ⟨⟨⟨g1, g2⟩, g3⟩, g4⟩ := hc
  have g1 := optEq_eq g1
  have g2 := optLt_eq g2
  have hto := Step.to (Step.refl hr) hr
  rcases iop_cases g3 hf h with ⟨hw, fr', hf', hk⟩ | ⟨hw, fr', hf', hk⟩
  · obtain ⟨v, c, hrun, hv, hk⟩ := chkI0 (h1.ro he) g4 o rfl e H w fr a Q _ hr hf hk
    rw [← g1] at hk
    exact ⟨_, c, hf'.put hto g2 hv, .inl ⟨hw, hrun⟩, hk⟩
  · rw [← g1] at hk
    exact ⟨_, undef, hf'.put hto g2 (mk_none _), .inr ⟨hw, rfl⟩, hk⟩

theorem again_sound {ops : Array Oper} {ds : List IOp} {i : Nat} {o : Oper} {d : IOp} (h1 : D1 X ops ds i o d) (he : d.eff = false) {fr : Fr} {a : Act} (hr : Rel X.G e H w) (hf : FrR X.N e fr a) {next : T} (h : sat X Q (againT d fr H next)) :
    ∃ c, FrR X.N e fr (a.put o.dst c) ∧ Yc X.P ops o a w c ∧ sat X Q next := by
  have hc := h1.iop
  simp only [chkIop, Bool.and_eq_true] at hc
  obtain ⟨⟨⟨g1, g2⟩, g3⟩, g4⟩ := hc
  have g1 := optEq_eq g1
  have g2 := optLt_eq g2
  -- a value that fits what the frame has
  have putd {c : Value} (hv : ∀ t, o.dst = some t → AV.val e (fr.at t) c) : FrR X.N e fr (a.put o.dst c) := by
    cases hd : o.dst with
    | none => exact hf
    | some t =>
      have ht := g2 t hd
      refine ⟨by simp [Act.put, hf.size], hf.defers, fun s => ?_⟩
      by_cases hts : t = s
      · subst hts
        have : (a.put (some t) c).tmps.getD t undef = c := by simp [Act.put, Array.getD_eq_getD_getElem?, hf.size, ht]
        rw [this]; exact hv t hd
      · have : (a.put (some t) c).tmps.getD s undef = a.tmps.getD s undef := by simp [Act.put, Array.getD_eq_getD_getElem?, Array.getElem?_setIfInBounds_ne hts]
        rw [this]; exact hf.slot s
  have one (hw : Region.wanted o (yielded ops a.tmps) = true) (h : sat X Q (againT.one d fr H next)) : ∃ c, FrR X.N e fr (a.put o.dst c) ∧ Yc X.P ops o a w c ∧ sat X Q next := by
    obtain ⟨v, c, hrun, hv, hk⟩ := chkI0 (h1.ro he) g4 o rfl e H w fr a Q _ hr hf h
    split at hk
    · rename_i hd
      refine ⟨c, putd fun t ht => ?_, .inl ⟨hw, hrun⟩, hk⟩
      rw [g1, hd] at ht; cases ht
    · rename_i t hd
      simp only [lk_eq] at hk
      obtain ⟨hve, hk⟩ := hk
      refine ⟨c, putd fun t' ht => ?_, .inl ⟨hw, hrun⟩, hk⟩
      rw [g1, hd] at ht
      obtain rfl := Option.some.inj ht
      rw [hve]; exact hv
  have nope (hw : Region.wanted o (yielded ops a.tmps) = false) (h : sat X Q (againT.off d fr next)) : ∃ c, FrR X.N e fr (a.put o.dst c) ∧ Yc X.P ops o a w c ∧ sat X Q next := by
    unfold againT.off at h
    split at h
    · rename_i hd
      exact ⟨undef, putd (fun t ht => by rw [g1, hd] at ht; cases ht), .inr ⟨hw, rfl⟩, h⟩
    · rename_i t hd
      simp only [lk_eq] at h
      split at h
      · rename_i hu
        refine ⟨undef, putd (fun t' ht => ?_), .inr ⟨hw, rfl⟩, h⟩
        rw [g1, hd] at ht
        obtain rfl := Option.some.inj ht
        rw [hu]; exact mk_none _
      · exact h.elim
  unfold againT at h
  unfold chkGuard at g3
  split at g3
  · rename_i hg1 hg2
    simp only [hg2] at h
    exact one (by simp [Region.wanted, hg1]) h
  · rename_i j want g want' hg1 hg2
    simp only [hg2, lk_eq] at h
    simp only [Bool.and_eq_true] at g3
    obtain ⟨h5, h6⟩ := g3
    have := beqB_eq h5
    subst this
    split at h6
    · rename_i oj hoj
      have hdst := optEq_eq h6
      split at h
      · rename_i b hb
        have hval := hf.slot g
        rw [hb] at hval
        have hcv := val_bool' hval
        have hy : yielded ops a.tmps j = some b := yielded_of hoj hdst hcv
        have hw : Region.wanted o (yielded ops a.tmps) = (some b == some want) := by simp [Region.wanted, hg1, hy]
        cases want with
        | true =>
          simp only at h
          cases b with
          | true => exact one (by rw [hw]; rfl) (h.1 rfl)
          | false => exact nope (by rw [hw]; rfl) (h.2 rfl)
        | false =>
          simp only at h
          cases b with
          | true => exact nope (by rw [hw]; rfl) (h.1 rfl)
          | false => exact one (by rw [hw]; rfl) (h.2 rfl)
      · rename_i hb
        have hval := hf.slot g
        rw [hb] at hval
        exact nope (by simp [Region.wanted, hg1, yielded_none hoj hdst (val_none hval)]) h
      · exact h.elim
    · cases h6
  · cases g3

/-! ### Slots that an operation looks at -/
def Same (ops : Array Oper) (o : Oper) (a b : Act) : Prop := ∀ t ∈ o.looksAt ops, a.tmps.getD t undef = b.tmps.getD t undef

theorem noSelect {P : Program} {G : Gl} {op : Op} {i : I} (h : chkI P G op i = true) : ∀ cs b, op ≠ .select cs b := by
  intro cs b he
  subst he
  cases i <;> simp [chkI, callB, callV] at h

theorem same_exec {ops : Array Oper} {o : Oper} {a b : Act} (hs : ∀ cs b, o.op ≠ .select cs b) (h : Same ops o a b) : execOp a.eval o = execOp b.eval o := by
  refine execOp_congr o hs fun x hx => ?_
  cases x with
  | tmp t => exact h t (List.mem_append_left _ (List.mem_filterMap.2 ⟨.tmp t, by simpa using hx, rfl⟩))
  | _ => rfl
theorem same_wanted {ops : Array Oper} {o : Oper} {a b : Act} (hn : a.tmps.size = b.tmps.size) (h : Same ops o a b) : Region.wanted o (yielded ops a.tmps) = Region.wanted o (yielded ops b.tmps) := by
  unfold Region.wanted
  cases hg : o.guard with
  | none => rfl
  | some gw =>
    obtain ⟨g, want⟩ := gw
    have hy : yielded ops a.tmps g = yielded ops b.tmps g := by
      unfold yielded
      cases ht : (ops[g]?).bind (·.dst) with
      | none => rfl
      | some t =>
        have hm : t ∈ o.looksAt ops := List.mem_append_right _ (by simp [hg, ht])
        have := h t hm
        simp only [Option.bind_some]
        have : a.tmps[t]? = b.tmps[t]? := by
          by_cases hl : t < a.tmps.size
          · have hl' : t < b.tmps.size := hn ▸ hl
            rw [Array.getElem?_eq_getElem hl, Array.getElem?_eq_getElem hl']
            simp only [Array.getD_eq_getD_getElem?, Array.getElem?_eq_getElem hl, Array.getElem?_eq_getElem hl', Option.getD_some] at this
            rw [this]
          · rw [Array.getElem?_eq_none (Nat.le_of_not_lt hl), Array.getElem?_eq_none (Nat.le_of_not_lt (hn ▸ hl))]
        rw [this]
    simp only [hy]
theorem Yc.same {P : Program} {ops : Array Oper} {o : Oper} {a b : Act} {c : Value} (hs : ∀ cs b, o.op ≠ .select cs b) (hn : a.tmps.size = b.tmps.size) (h : Same ops o a b) (hy : Yc P ops o a w c) : Yc P ops o b w c := by
  unfold Yc at *
  rw [same_exec hs h, same_wanted hn h] at hy
  exact hy

/-! ### All of it -/
theorem put_getD (a : Act) (dst : Option Nat) (c : Value) (t : Nat) (h : ∀ x, dst = some x → x < a.tmps.size) : (a.put dst c).tmps.getD t undef = if dst = some t then c else a.tmps.getD t undef := by
  cases dst with
  | none => simp [Act.put]
  | some d =>
    have hd := h d rfl
    by_cases hdt : d = t
    · subst hdt; simp [Act.put, Array.getD_eq_getD_getElem?, hd]
    · simp [Act.put, Array.getD_eq_getD_getElem?, Array.getElem?_setIfInBounds_ne hdt, hdt]
theorem put_size (a : Act) (dst : Option Nat) (c : Value) : (a.put dst c).tmps.size = a.tmps.size := by cases dst <;> simp [Act.put]
theorem put_defers (a : Act) (dst : Option Nat) (c : Value) : (a.put dst c).defers = a.defers := by cases dst <;> rfl

theorem D1.dsts {ops : Array Oper} {ds : List IOp} {i : Nat} {o : Oper} {d : IOp} (h : D1 X ops ds i o d) : o.dst = d.dst ∧ (∀ x, o.dst = some x → x < X.N) ∧ ∀ cs b, o.op ≠ .select cs b := by
  have := h.iop
  simp only [chkIop, Bool.and_eq_true] at this
  exact ⟨optEq_eq this.1.1.1, optLt_eq this.1.1.2, noSelect this.2⟩

theorem DR.get {ops : Array Oper} {ds : List IOp} (h : DR X ops ds) {i : Nat} {d : IOp} (hd : ds[i]? = some d) : ∃ o, ops[i]? = some o ∧ D1 X ops ds i o d := by
  have := lt_of_get hd
  rw [h.len] at this
  exact ⟨ops[i], by simp [this], h.one i _ d (by simp [this]) hd⟩

def YC (X : Cx) (ops : Array Oper) (w : World) (a : Act) (j : Nat) : Prop := ∀ o, ops[j]? = some o → ∃ c, Yc X.P ops o a w c ∧ ∀ t, o.dst = some t → a.tmps.getD t undef = c

theorem YC.put {ops : Array Oper} {ds : List IOp} (hD : DR X ops ds) {a : Act} (hn : a.tmps.size = X.N) {j : Nat} (h : YC X ops w a j) {i : Nat} {o : Oper} {d dj : IOp} (ho : ops[i]? = some o) (hd : ds[i]? = some d) (hdj : ds[j]? = some dj) (c : Value)
    (hij : i ≠ j) (hp : i ∉ dj.pre) (he : d.eff = false ∨ j ∉ d.pre) : YC X ops w (a.put o.dst c) j := by
  intro oj hoj
  obtain ⟨cj, h1, h2⟩ := h oj hoj
  have hi := hD.one i o d ho hd
  have hj := hD.one j oj dj hoj hdj
  obtain ⟨e1, e2, e3⟩ := hi.dsts
  obtain ⟨f1, f2, f3⟩ := hj.dsts
  have hb : ∀ x, o.dst = some x → x < a.tmps.size := fun x hx => by rw [hn]; exact e2 x hx
  refine ⟨cj, h1.same f3 (put_size a _ _).symm ?_, fun t ht => ?_⟩
  · intro t ht
    rw [put_getD a _ _ _ hb]
    split
    · rename_i hot
      rcases hj.look t ht i d hd (by rw [← e1]; exact hot) with h3 | ⟨h3, h4⟩
      · exact absurd h3 hp
      · rcases he with he | he
        · rw [he] at h3; cases h3
        · exact absurd (h4.resolve_left hij) he
    · rfl
  · rw [put_getD a _ _ _ hb]
    split
    · rename_i hot
      exact absurd (hj.dst i d t hd (by rw [← f1]; exact ht) (by rw [← e1]; exact hot)) hij
    · exact h2 t ht
theorem YC.own {ops : Array Oper} {ds : List IOp} (hD : DR X ops ds) {a : Act} (hn : a.tmps.size = X.N) {i : Nat} {o : Oper} {d : IOp} (ho : ops[i]? = some o) (hd : ds[i]? = some d) (he : d.eff = false) {c : Value} (h : Yc X.P ops o a w c) : YC X ops w (a.put o.dst c) i := by
  intro oj hoj
  rw [ho] at hoj; obtain rfl := Option.some.inj hoj
  have hi := hD.one i o d ho hd
  obtain ⟨e1, e2, e3⟩ := hi.dsts
  have hb : ∀ x, o.dst = some x → x < a.tmps.size := fun x hx => by rw [hn]; exact e2 x hx
  refine ⟨c, h.same e3 (put_size a _ _).symm ?_, fun t ht => by rw [put_getD a _ _ _ hb, if_pos ht]⟩
  intro t ht
  rw [put_getD a _ _ _ hb]
  split
  · rename_i hot
    rcases hi.look t ht i d hd (by rw [← e1]; exact hot) with h3 | ⟨h3, _⟩
    · have := (hi.pre i h3).1; omega
    · rw [he] at h3; cases h3
  · rfl

theorem drop_cons {α : Type} {l : List α} {i : Nat} {x : α} {r : List α} (h : l.drop i = x :: r) : l[i]? = some x ∧ l.drop (i + 1) = r := by
  have hi : i < l.length := by
    rcases Nat.lt_or_ge i l.length with h' | h'
    · exact h'
    · rw [List.drop_eq_nil_of_le h'] at h; cases h
  rw [List.drop_eq_getElem_cons hi] at h
  simp only [List.cons.injEq] at h
  exact ⟨by rw [List.getElem?_eq_getElem hi, h.1], h.2⟩

theorem agains_sound {ops : Array Oper} {ds : List IOp} (hD : DR X ops ds) (hr : Rel X.G e H w) {fr : Fr} {P : List Nat} {S : Nat → Prop} (hP : ∀ j ∈ P, ∃ d, ds[j]? = some d ∧ d.eff = false) {next : T} : ∀ {l : List IOp} {i : Nat} {a : Act}, ds.drop i = l → FrR X.N e fr a → (∀ j ∈ P, S j → j < i → YC X ops w a j) →
    sat X Q (againsT P i l fr H next) → ∃ a', FrR X.N e fr a' ∧ (∀ j ∈ P, S j → YC X ops w a' j) ∧ sat X Q next ∧ (∀ t, (∀ j ∈ P, S j → ∀ d, ds[j]? = some d → d.dst ≠ some t) → a'.tmps.getD t undef = a.tmps.getD t undef)
  | [], i, a, hl, hf, hy, h => by
    refine ⟨a, hf, fun j hj hS => hy j hj hS ?_, h, fun _ _ => rfl⟩
    obtain ⟨d, hd, _⟩ := hP j hj
    have h1 := lt_of_get hd
    have h2 : ds.length ≤ i := List.drop_eq_nil_iff.1 hl
    omega
  | d :: l, i, a, hl, hf, hy, h => by
    obtain ⟨hd, hl⟩ := drop_cons hl
    simp only [againsT] at h
    split at h
    · rename_i hiP
      have hiP := (nameIn_iff _ _).1 hiP
      obtain ⟨d', hd', he⟩ := hP i hiP
      rw [hd] at hd'; obtain rfl := Option.some.inj hd'
      obtain ⟨o, ho, hi⟩ := hD.get hd
      obtain ⟨c, hf', hyc, h⟩ := again_sound hi he hr hf h
      by_cases hSi : S i
      case neg =>
        refine agains_sound hD hr hP hl hf (fun j hj hSj hji => hy j hj hSj ?_) h
        by_cases hij : j = i
        · subst hij; exact absurd hSj hSi
        · omega
      obtain ⟨a', g1, g2, g3, g4⟩ := agains_sound hD hr hP hl hf' (fun j hj hSj hji => by
        by_cases hij : j = i
        · subst hij; exact YC.own hD hf.size ho hd he hyc
        · obtain ⟨dj, hdj, _⟩ := hP j hj
          obtain ⟨oj, hoj, hjd⟩ := hD.get hdj
          refine YC.put hD hf.size (hy j hj hSj (by omega)) ho hd hdj c (fun h => hij h.symm) ?_ (.inl he)
          intro hp
          have := (hjd.pre i hp).1; omega) h
      refine ⟨a', g1, g2, g3, fun t ht => ?_⟩
      rw [g4 t ht, put_getD a _ _ _ (fun x hx => by rw [hf.size]; exact hi.dsts.2.1 x hx), if_neg]
      rw [hi.dsts.1]; exact ht i hiP hSi d hd
    · rename_i hiP
      refine agains_sound hD hr hP hl hf (fun j hj hSj hji => hy j hj hSj ?_) h
      by_cases hij : j = i
      · subst hij; rw [(nameIn_iff _ _).2 hj] at hiP; cases hiP
      · omega

theorem subN_iff : ∀ {xs M : List Nat}, subN xs M = true ↔ ∀ x ∈ xs, x ∈ M
  | [], M => by simp [subN]
  | x :: xs, M => by simp [subN, Bool.and_eq_true, nameIn_iff, subN_iff]
theorem dropN_iff {D : List Nat} : ∀ {xs : List Nat} {x : Nat}, x ∈ dropN D xs ↔ x ∈ xs ∧ x ∉ D
  | [], x => by simp [dropN]
  | y :: ys, x => by
    simp only [dropN]
    split
    · rename_i h
      have := (nameIn_iff _ _).1 h
      rw [dropN_iff]
      constructor
      · rintro ⟨a, b⟩; exact ⟨List.mem_cons_of_mem _ a, b⟩
      · rintro ⟨a, b⟩
        rcases List.mem_cons.1 a with rfl | a
        · exact absurd this b
        · exact ⟨a, b⟩
    · rename_i h
      have : y ∉ D := fun hm => by rw [(nameIn_iff _ _).2 hm] at h; cases h
      rw [List.mem_cons, dropN_iff, List.mem_cons]
      constructor
      · rintro (rfl | ⟨a, b⟩)
        · exact ⟨.inl rfl, this⟩
        · exact ⟨.inr a, b⟩
      · rintro ⟨rfl | a, b⟩
        · exact .inl rfl
        · exact .inr ⟨a, b⟩

/-- What has been evaluated, and in what world. -/
structure Sim (X : Cx) (ops : Array Oper) (ds : List IOp) (S : Nat → Prop) (M P : List Nat) (fr : Fr) (H : Hp) (e : Env) (w : World) (a : Act) : Prop where
  frr : FrR X.N e fr a
  clo : ∀ j ∈ M, ∀ x ∈ preOf ds j, x ∈ M
  pin : ∀ j ∈ P, j ∈ M ∧ ∃ d, ds[j]? = some d ∧ d.eff = false
  yc : ∀ j ∈ P, S j → YC X ops w a j

theorem reads_sound {ops : Array Oper} {ds : List IOp} {S : Nat → Prop} (hD : DR X ops ds) (hr : Rel X.G e H w) {k : List Nat → List Nat → Fr → T} : ∀ {l : List IOp} {i : Nat} {M P : List Nat} {fr : Fr} {a : Act}, ds.drop i = l → Sim X ops ds S M P fr H e w a →
    sat X Q (readsT i l M P fr H k) → ∃ M' P' fr' a', Sim X ops ds S M' P' fr' H e w a' ∧ sat X Q (k M' P' fr') ∧ (∀ x ∈ M, x ∈ M') ∧ (∀ x ∈ P, x ∈ P') ∧ (∀ x ∈ M', x ∈ M ∨ (i ≤ x ∧ x ∈ P' ∧ ∃ d, ds[x]? = some d ∧ d.eff = false)) ∧
      (∀ t, (∀ j ∈ M', j ∉ M → ∀ d, ds[j]? = some d → d.dst ≠ some t) → a'.tmps.getD t undef = a.tmps.getD t undef) ∧
      (∀ (j : Nat) d, i ≤ j → ds[j]? = some d → d.eff = false → (∀ x ∈ d.pre, x ∈ M') → j ∈ M')
  | [], i, M, P, fr, a, hl, hs, h => by
    refine ⟨M, P, fr, a, hs, h, fun _ h => h, fun _ h => h, fun _ h => .inl h, fun _ _ => rfl, fun j d hj hd _ _ => ?_⟩
    have h1 := lt_of_get hd
    have h2 : ds.length ≤ i := List.drop_eq_nil_iff.1 hl
    omega
  | d :: l, i, M, P, fr, a, hl, hs, h => by
    obtain ⟨hd, hl⟩ := drop_cons hl
    simp only [readsT] at h
    split at h
    · rename_i he hiM hsub
      rw [Bool.eq_false_iff] at hiM
      have hiM : i ∉ M := fun hm => hiM ((nameIn_iff _ _).2 hm)
      have hsub := subN_iff.1 hsub
      obtain ⟨o, ho, hi⟩ := hD.get hd
      obtain ⟨fr', c, hf', hyc, h⟩ := read_sound hi he hr hs.frr h
      rw [litK_eq] at h
      have hs' : Sim X ops ds S (i :: M) (i :: P) fr' H e w (a.put o.dst c) := by
        refine ⟨hf', ?_, ?_, ?_⟩
        · intro j hj x hx
          rcases List.mem_cons.1 hj with rfl | hj
          · simp only [preOf, hd] at hx; exact List.mem_cons_of_mem _ (hsub x hx)
          · exact List.mem_cons_of_mem _ (hs.clo j hj x hx)
        · intro j hj
          rcases List.mem_cons.1 hj with rfl | hj
          · exact ⟨List.mem_cons_self .., d, hd, he⟩
          · exact ⟨List.mem_cons_of_mem _ (hs.pin j hj).1, (hs.pin j hj).2⟩
        · intro j hj hSj
          rcases List.mem_cons.1 hj with rfl | hj
          · exact YC.own hD hs.frr.size ho hd he hyc
          · obtain ⟨hjM, dj, hdj, _⟩ := hs.pin j hj
            refine YC.put hD hs.frr.size (hs.yc j hj hSj) ho hd hdj c (fun e => hiM (e ▸ hjM)) ?_ (.inl he)
            intro hp
            exact hiM (hs.clo j hjM i (by simp only [preOf, hdj]; exact hp))
      obtain ⟨M', P', fr2, a2, g1, g2, g3, g0, g4, g5, g6⟩ := reads_sound hD hr hl hs' h
      refine ⟨M', P', fr2, a2, g1, g2, fun x hx => g3 x (List.mem_cons_of_mem _ hx), fun x hx => g0 x (List.mem_cons_of_mem _ hx), fun x hx => ?_, fun t ht => ?_, fun j dj hj hdj hej hpj => ?_⟩
      · rcases g4 x hx with h1 | ⟨h1, h2, h3⟩
        · rcases List.mem_cons.1 h1 with rfl | h1
          · exact .inr ⟨Nat.le_refl _, g0 _ (List.mem_cons_self ..), d, hd, he⟩
          · exact .inl h1
        · exact .inr ⟨by omega, h2, h3⟩
      · rw [g5 t (fun j hj hjM => ht j hj (fun hm => hjM (List.mem_cons_of_mem _ hm))), put_getD a _ _ _ (fun x hx => by rw [hs.frr.size]; exact hi.dsts.2.1 x hx), if_neg]
        rw [hi.dsts.1]; exact ht i (g3 i (List.mem_cons_self ..)) hiM d hd
      · by_cases hij : j = i
        · subst hij; exact g3 _ (List.mem_cons_self ..)
        · exact g6 j dj (by omega) hdj hej hpj
    · rename_i hno
      obtain ⟨M', P', fr2, a2, g1, g2, g3, g0, g4, g5, g6⟩ := reads_sound hD hr hl hs h
      refine ⟨M', P', fr2, a2, g1, g2, g3, g0, fun x hx => ?_, g5, fun j dj hj hdj hej hpj => ?_⟩
      · rcases g4 x hx with h1 | ⟨h1, h2⟩
        · exact .inl h1
        · exact .inr ⟨by omega, h2⟩
      · by_cases hij : j = i
        · subst hij
          rw [hd] at hdj; obtain rfl := Option.some.inj hdj
          by_cases hjM : j ∈ M
          · exact g3 j hjM
          · exfalso
            obtain ⟨o, ho, hi⟩ := hD.get hd
            refine hno hej ?_ ?_
            · cases hb : nameIn j M with
              | true => exact absurd ((nameIn_iff _ _).1 hb) hjM
              | false => rfl
            · refine subN_iff.2 fun x hx => ?_
              rcases g4 x (hpj x hx) with h1 | ⟨h1, _⟩
              · exact h1
              · have := (hi.pre x hx).1; omega
        · exact g6 j dj (by omega) hdj hej hpj

theorem cands_sound {f : Nat → IOp → T} {M : List Nat} : ∀ {l : List IOp} {n : Nat} {acc : Option T}, sat X Q (candsT f M n l acc) →
    (∀ t, acc = some t → sat X Q t) ∧ ∀ (k : Nat) d, l[k]? = some d → d.eff = true → n + k ∉ M → (∀ x ∈ d.pre, x ∈ M) → sat X Q (f (n + k) d)
  | [], n, acc, h => by
    cases acc with
    | none => exact h.elim
    | some t => exact ⟨fun t' ht => by obtain rfl := Option.some.inj ht; exact h, fun k d hk => by simp at hk⟩
  | o :: os, n, acc, h => by
    simp only [candsT] at h
    split at h
    · rw [litK_eq] at h
      cases acc with
      | none =>
        obtain ⟨h1, h2⟩ := cands_sound h
        refine ⟨fun t ht => (by cases ht), fun k d hk he hm hp => ?_⟩
        cases k with
        | zero => simp at hk; subst hk; exact h1 _ rfl
        | succ k => rw [show n + (k + 1) = n + 1 + k by omega] at hm ⊢; exact h2 k d (by simpa using hk) he hm hp
      | some t =>
        obtain ⟨h1, h2⟩ := cands_sound h
        have h3 := h1 _ rfl
        refine ⟨fun t' ht => by obtain rfl := Option.some.inj ht; exact h3.1, fun k d hk he hm hp => ?_⟩
        cases k with
        | zero => simp at hk; subst hk; exact h3.2
        | succ k => rw [show n + (k + 1) = n + 1 + k by omega] at hm ⊢; exact h2 k d (by simpa using hk) he hm hp
    · rename_i hno
      obtain ⟨h1, h2⟩ := cands_sound h
      refine ⟨h1, fun k d hk he hm hp => ?_⟩
      cases k with
      | zero =>
        simp at hk; subst hk
        exfalso
        refine hno he ?_ (subN_iff.2 hp)
        cases hb : nameIn n M with
        | true => exact absurd ((nameIn_iff _ _).1 hb) (by simpa using hm)
        | false => rfl
      | succ k => rw [show n + (k + 1) = n + 1 + k by omega] at hm ⊢; exact h2 k d (by simpa using hk) he hm hp

theorem allN_iff {M : List Nat} : ∀ {l : List IOp} {n : Nat}, allN n l M = true ↔ ∀ k, k < l.length → n + k ∈ M
  | [], n => by simp [allN]
  | o :: os, n => by
    simp only [allN, Bool.and_eq_true, nameIn_iff, allN_iff, List.length_cons]
    constructor
    · rintro ⟨h1, h2⟩ k hk
      cases k with
      | zero => simpa using h1
      | succ k => rw [show n + (k + 1) = n + 1 + k by omega]; exact h2 k (by omega)
    · intro h
      refine ⟨by simpa using h 0 (by omega), fun k hk => ?_⟩
      rw [show n + 1 + k = n + (k + 1) by omega]; exact h (k + 1) (by omega)

def unl (listed : Array Bool) (n : Nat) : Nat := (List.range n).countP fun i => !(listed.getD i true)
theorem countP_one {p q : Nat → Bool} {i : Nat} : ∀ {l : List Nat}, l.Nodup → i ∈ l → p i = true → q i = false → (∀ j, j ≠ i → q j = p j) → l.countP q + 1 = l.countP p
  | [], _, h, _, _, _ => by cases h
  | x :: l, hn, hm, hp, hq, hj => by
    rw [List.nodup_cons] at hn
    have same : ∀ l : List Nat, i ∉ l → l.countP q = l.countP p := by
      intro l hl
      induction l with
      | nil => rfl
      | cons y l ih =>
        simp only [List.mem_cons, not_or] at hl
        rw [List.countP_cons, List.countP_cons, ih hl.2, hj y (fun e => hl.1 e.symm)]
    rcases List.mem_cons.1 hm with rfl | hm
    · rw [List.countP_cons, List.countP_cons, same l hn.1, hp, hq]; simp
    · have hx : x ≠ i := fun e => hn.1 (e ▸ hm)
      have := countP_one hn.2 hm hp hq hj
      rw [List.countP_cons, List.countP_cons, hj x hx]
      omega
theorem listed_set {listed : Array Bool} {i : Nat} (hi : i < listed.size) (j : Nat) : (listed.setIfInBounds i true).getD j true = if j = i then true else listed.getD j true := by
  by_cases hj : j = i
  · subst hj; simp [Array.getD_eq_getD_getElem?, hi]
  · rw [if_neg hj]
    simp [Array.getD_eq_getD_getElem?, Array.getElem?_setIfInBounds_ne (fun e => hj e.symm)]
theorem unl_set {listed : Array Bool} {n i : Nat} (hs : listed.size = n) (hi : i < n) (hl : listed.getD i true = false) : unl (listed.setIfInBounds i true) n + 1 = unl listed n := by
  refine countP_one List.nodup_range (by simpa using hi) (by rw [hl]; rfl) (by rw [listed_set (by omega), if_pos rfl]; rfl) (fun j hj => by rw [listed_set (by omega), if_neg hj])
end Stk
