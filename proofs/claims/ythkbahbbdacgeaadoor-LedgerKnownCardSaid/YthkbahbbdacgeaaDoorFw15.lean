/- The framework, part 15: an operation and its compact form. -/
import Derived.Test.YthkbahbbdacgeaaDoorFwM
namespace Stk
open Go
variable {X : Cx} {Q : Ex → Fr → Hp → Prop} {e : Env} {H : Hp} {w : World}

def mapT (P : Program) (t : TypeId) (f : TypeId → TypeId → Bool) : Bool :=
  match P.underlying t with
  | some (.map k e) => f k e
  | _ => false
theorem mapT_eq {P : Program} {t : TypeId} {f : TypeId → TypeId → Bool} (h : mapT P t f = true) : ∃ k e, P.underlying t = some (.map k e) ∧ f k e = true := by
  unfold mapT at h
  split at h
  · rename_i k e hk; exact ⟨k, e, hk, h⟩
  · cases h

/-- What is to be shown of what an operation gives. -/
def Upon (P : Program) (r : Result Next) (K : Value → World → Prop) : Prop :=
  match r with
  | .ok (.value c) w' => K c w'
  | .ok .skip w' => K undef w'
  | .ok (.enter f args) w' => Calls P f args w' fun en w'' => ∃ c, en = .returned c ∧ K c w''
  | _ => False
theorem Upon.wp {P : Program} {o : Oper} {a : Act} {w : World} {K : Value → World → Prop} (h : Upon P ((execOp a.eval o).run P w) K) {next : Act → World → Prop} {Qe : Exit → Act → World → Prop} (hn : ∀ c w', K c w' → next (a.put o.dst c) w') : o.wp P a w next Qe := by
  unfold Oper.wp
  generalize (execOp a.eval o).run P w = r at h
  unfold Upon at h
  split at h
  · exact hn _ _ h
  · exact hn _ _ h
  · rw [Oper.upon_enter]
    refine Calls.mono h ?_
    rintro en w' ⟨c, rfl, hk⟩
    exact hn _ _ hk
  · exact h.elim

theorem Upon.mono {P : Program} {r : Result Next} {K K' : Value → World → Prop} (h : Upon P r K) (hk : ∀ c w, K c w → K' c w) : Upon P r K' := by
  unfold Upon at *
  split at h
  · exact hk _ _ h
  · exact hk _ _ h
  · refine Calls.mono h ?_
    rintro en w' ⟨c, rfl, h⟩
    exact ⟨c, rfl, hk _ _ h⟩
  · exact h.elim
def OpW (X : Cx) (o : Oper) (i : I) : Prop :=
  ∀ e H w fr a Q k, Rel X.G e H w → FrR X.N e fr a → sat X Q (opT fr H i k) → Upon X.P ((execOp a.eval o).run X.P w) fun c w' => ∃ v e' H', AV.val e' v c ∧ Step X.G e H w e' H' w' ∧ sat X Q (k v H')

theorem OpS.toW {o : Oper} {op : Op} {i : I} (h : OpS X op i) (ho : o.op = op) : OpW X o i := by
  intro e H w fr a Q k hr hf hs
  obtain ⟨v, c, e', H', w', hrun, hv, hst, hk⟩ := h o ho e H w fr a Q k hr hf hs
  rcases hrun with hrun | ⟨hrun, rfl⟩
  · rw [hrun]; exact ⟨v, e', H', hv, hst, hk⟩
  · rw [hrun]; exact ⟨v, e', H', hv, hst, hk⟩

theorem run_callFunc {P : Program} {f : FuncId} (h : Callable P f) (args : Array Value) (w : World) : (callFunc f args).run P w = .ok (.enter f args) w := by
  obtain ⟨fn, h1, h2, h3⟩ := h
  have h2' : fn.name ≠ "runtime.NumGoroutine" := by simpa using h2
  have h3' : fn.body ≠ none := by intro h; simp [h] at h3
  simp [callFunc, program, Sem.run_bind, Sem.run, Result.andThen, h1, h2', h3']

theorem op_call {o : Oper} {f : FuncId} {f' : Operand} {bor : List Bool} {xs : List Opd} {xs' : Array Operand} {ats : Array TypeId} (hf' : chkOpd X.G (.fn f) f' = true) (hx : chkOpds X.G xs xs'.toList = true)
    (ho : o.op = .call { callee := .value f', args := xs', argTypes := ats }) : OpW X o (.call f bor xs) := by
  intro e H w fr a Q k hr hf hs
  have hfv : f' = .func f := by
    unfold chkOpd at hf'
    split at hf' <;> simp_all
  subst hfv
  simp only [opT, evsK_eq] at hs
  have hv : AV.vals e (xs.map (·.at fr)) (#[] ++ xs'.map a.eval ++ #[]).toList := by
    have := chkOpds_vals hr hf hx
    simpa using this
  obtain ⟨hc, hcalls⟩ := callK_sound hr hv hs
  have : (execOp a.eval o).run X.P w = .ok (.enter f (#[] ++ xs'.map a.eval ++ #[])) w := by
    simp only [execOp, ho, resolve, Act.eval, Deferred.ofValue, pure_bind, invoke]
    exact run_callFunc hc _ w
  rw [this]
  refine Calls.mono hcalls ?_
  rintro en w' ⟨r, c, e', H', rfl, hrv, hst, hk⟩
  exact ⟨c, rfl, r, e', H', hrv, hst, hk⟩

theorem AV.vals_append {e : Env} : ∀ {xs ys : List AV} {cs ds : List Value}, AV.vals e xs cs → AV.vals e ys ds → AV.vals e (xs ++ ys) (cs ++ ds)
  | [], ys, cs, ds, h, h' => by simp only [AV.vals] at h; subst h; simpa using h'
  | x :: xs, ys, cs, ds, h, h' => by
    simp only [AV.vals] at h
    obtain ⟨c, b, rfl, h1, h2⟩ := h
    simp only [List.cons_append, AV.vals]
    exact ⟨c, b ++ ds, rfl, h1, AV.vals_append h2 h'⟩

theorem op_callv {o : Oper} {x : Opd} {x' : Operand} {bor : List Bool} {xs : List Opd} {xs' : Array Operand} {ats : Array TypeId} (hx0 : chkOpd X.G x x' = true) (hx : chkOpds X.G xs xs'.toList = true)
    (ho : o.op = .call { callee := .value x', args := xs', argTypes := ats }) : OpW X o (.callv x bor xs) := by
  intro e H w fr a Q k hr hf hs
  have hxv := chkOpd_val hr hf hx0
  simp only [opT, evK_eq, evsK_eq] at hs
  split at hs
  · rename_i f first cap hxa
    rw [hxa] at hxv
    simp only [AV.val] at hxv
    obtain ⟨vs, ws, hc, h1, h2⟩ := hxv
    have hv : AV.vals e (first ++ xs.map (·.at fr) ++ cap) (vs ++ xs'.map a.eval ++ ws).toList := by
      have := chkOpds_vals hr hf hx
      simp only [Array.toList_append, Array.toList_map]
      exact AV.vals_append (AV.vals_append h1 this) h2
    obtain ⟨hcb, hcalls⟩ := callK_sound hr hv hs
    have : (execOp a.eval o).run X.P w = .ok (.enter f (vs ++ xs'.map a.eval ++ ws)) w := by
      simp only [execOp, ho, resolve, hc, Deferred.ofValue, pure_bind, invoke]
      exact run_callFunc hcb _ w
    rw [this]
    refine Calls.mono hcalls ?_
    rintro en w' ⟨r, c, e', H', rfl, hrv, hst, hk⟩
    exact ⟨c, rfl, r, e', H', hrv, hst, hk⟩
  · exact hs.elim

/-! ### The checker -/
def szIs (P : Program) (t : TypeId) (n : Nat) : Bool :=
  match P.info? t with
  | some i => Nat.beq i.size n
  | none => false
theorem szIs_eq {P : Program} {t : TypeId} {n : Nat} (h : szIs P t n = true) : (P.info? t).map (·.size) = some n := by
  unfold szIs at h
  split at h
  · rename_i i hi; rw [hi]; simp [beq_eq h]
  · cases h
def slE (P : Program) (t : TypeId) (k : TypeId → Bool) : Bool :=
  match P.underlying t with
  | some (.slice el) => k el
  | _ => false
theorem slE_eq {P : Program} {t : TypeId} {k : TypeId → Bool} (h : slE P t k = true) : ∃ el, P.underlying t = some (.slice el) ∧ k el = true := by
  unfold slE at h
  split at h
  · rename_i el hel; exact ⟨el, hel, h⟩
  · cases h
def isStr (P : Program) (t : TypeId) : Bool :=
  match P.underlying t with
  | some .string => true
  | _ => false
theorem isStr_eq {P : Program} {t : TypeId} (h : isStr P t = true) : P.underlying t = some .string := by
  unfold isStr at h
  split at h
  · rename_i he; exact he
  · cases h
def isU8 (P : Program) (t : TypeId) : Bool :=
  match P.underlying t with
  | some (.int .u8) => true
  | _ => false
theorem isU8_eq {P : Program} {t : TypeId} (h : isU8 P t = true) : P.underlying t = some (.int .u8) := by
  unfold isU8 at h
  split at h
  · rename_i he; exact he
  · cases h
def isBoolT (P : Program) (t : TypeId) : Bool :=
  match P.underlying t with
  | some .bool => true
  | _ => false
theorem isBoolT_eq {P : Program} {t : TypeId} (h : isBoolT P t = true) : P.underlying t = some .bool := by
  unfold isBoolT at h
  split at h
  · rename_i he; exact he
  · cases h
def arrE (P : Program) (t : TypeId) (n : Nat) (k : TypeId → Bool) : Bool :=
  match P.underlying t with
  | some (.array m el) => Nat.beq m n && k el
  | _ => false
theorem arrE_eq {P : Program} {t : TypeId} {n : Nat} {k : TypeId → Bool} (h : arrE P t n k = true) : ∃ el, P.underlying t = some (.array n el) ∧ k el = true := by
  unfold arrE at h
  split at h
  · rename_i m el hel
    simp only [Bool.and_eq_true] at h
    exact ⟨el, by rw [hel, beq_eq h.1], h.2⟩
  · cases h
/-- an array, or a pointer to one -/
def parE (P : Program) (t : TypeId) (n : Nat) (k : TypeId → Bool) : Bool :=
  match P.underlying t with
  | some (.array m el) => Nat.beq m n && k el
  | some (.pointer q) => arrE P q n k
  | _ => false
theorem parE_eq {P : Program} {t : TypeId} {n : Nat} {k : TypeId → Bool} (h : parE P t n k = true) : ∃ el, (P.underlying t = some (.array n el) ∨ ∃ q, P.underlying t = some (.pointer q) ∧ P.underlying q = some (.array n el)) ∧ k el = true := by
  unfold parE at h
  split at h
  · rename_i m el hel
    simp only [Bool.and_eq_true] at h
    exact ⟨el, .inl (by rw [hel, beq_eq h.1]), h.2⟩
  · rename_i q hq
    obtain ⟨el, h1, h2⟩ := arrE_eq h
    exact ⟨el, .inr ⟨q, hq, h1⟩, h2⟩
  · cases h

def callB (op : Op) (k : Builtin → List Operand → List TypeId → Bool) : Bool :=
  match op with
  | .call ⟨.builtin b, xs, ts⟩ => k b xs.toList ts.toList
  | _ => false
theorem callB_eq {op : Op} {k : Builtin → List Operand → List TypeId → Bool} (h : callB op k = true) : ∃ b xs ts, op = .call ⟨.builtin b, xs, ts⟩ ∧ k b xs.toList ts.toList = true := by
  unfold callB at h
  split at h
  · exact ⟨_, _, _, rfl, h⟩
  · cases h
def callV (op : Op) (k : Operand → List Operand → Bool) : Bool :=
  match op with
  | .call ⟨.value f, xs, _⟩ => k f xs.toList
  | _ => false
theorem callV_eq {op : Op} {k : Operand → List Operand → Bool} (h : callV op k = true) : ∃ f xs ts, op = .call ⟨.value f, xs, ts⟩ ∧ k f xs.toList = true := by
  unfold callV at h
  split at h
  · exact ⟨_, _, _, rfl, h⟩
  · cases h
theorem arr_of {α : Type} {xs : Array α} {l : List α} (h : xs.toList = l) : xs = l.toArray := by rw [← h]

def nilOf : NK → Operand → Bool
  | .ptr, .const (.pointer none) => true
  | .sl, .const (.slice none 0 0) => true
  | .mp, .const (.map none) => true
  | .fn, .const .nilFunc => true
  | .ifc, .const .nilIface => true
  | _, _ => false
theorem nilOf_eq {kd : NK} {y : Operand} (h : nilOf kd y = true) : y = .const (nilC kd) := by
  unfold nilOf at h
  split at h <;> first | rfl | cases h

def nilT (P : Program) (t : TypeId) (kd : NK) : Bool :=
  match P.underlying t with
  | some d => nkOK kd d
  | none => false
theorem nilT_eq {P : Program} {t : TypeId} {kd : NK} (h : nilT P t kd = true) : ∃ d, P.underlying t = some d ∧ nkOK kd d = true := by
  unfold nilT at h
  split at h
  · rename_i d hd; exact ⟨d, hd, h⟩
  · cases h

def szB (P : Program) (t : TypeId) (n b : Nat) : Bool :=
  match P.info? t with
  | some i => Nat.beq i.size n && Nat.beq i.bytes b
  | none => false
theorem szB_eq {P : Program} {t : TypeId} {n b : Nat} (h : szB P t n b = true) : (P.info? t).map (fun i => (i.size, i.bytes)) = some (n, b) := by
  unfold szB at h
  split at h
  · rename_i i hi
    simp only [Bool.and_eq_true] at h
    rw [hi]; simp [beq_eq h.1, beq_eq h.2]
  · cases h

def isInt (P : Program) (t : TypeId) (j : IntKind) : Bool :=
  match P.underlying t with
  | some (.int k) => kindEq j k
  | _ => false
theorem isInt_eq {P : Program} {t : TypeId} {j : IntKind} (h : isInt P t j = true) : P.underlying t = some (.int j) := by
  unfold isInt at h
  split at h
  · rename_i k hk; rw [hk, kindEq_eq h]
  · cases h

def chkFaC (P : Program) (t : TypeId) (m : Int) (off : Nat) : Bool :=
  match P.underlying t with
  | some (.array n el) => (match P.info? el with
    | some i => decide (0 ≤ m) && decide (m < (n : Int)) && Nat.beq (m.toNat * i.size) off
    | none => false)
  | _ => false
theorem chkFaC_eq {P : Program} {t : TypeId} {m : Int} {off : Nat} (h : chkFaC P t m off = true) : ∃ el n esz, P.underlying t = some (.array n el) ∧ (P.info? el).map (·.size) = some esz ∧ 0 ≤ m ∧ m < n ∧ m.toNat * esz = off := by
  unfold chkFaC at h
  split at h
  · rename_i n el hu
    split at h
    · rename_i i hi
      simp only [Bool.and_eq_true, decide_eq_true_eq] at h
      exact ⟨el, n, i.size, hu, by rw [hi]; rfl, h.1.1, h.1.2, beq_eq h.2⟩
    · cases h
  · cases h
def chkFa (P : Program) (s : TypeId) (f off : Nat) : Bool :=
  match fldOf P s f with
  | some fl => Nat.beq fl.offset off && (match P.info? fl.type with
    | some i => Nat.ble 1 i.size
    | none => false)
  | none => false
theorem chkFa_eq {P : Program} {s : TypeId} {f off : Nat} (h : chkFa P s f off = true) : ∃ fl n, fldOf P s f = some fl ∧ fl.offset = off ∧ (P.info? fl.type).map (·.size) = some (n + 1) := by
  unfold chkFa at h
  split at h
  · rename_i fl hfl
    simp only [Bool.and_eq_true] at h
    obtain ⟨h1, h2⟩ := h
    split at h2
    · rename_i i hi
      have := Nat.le_of_ble_eq_true h2
      exact ⟨fl, i.size - 1, hfl, beq_eq h1, by rw [hi]; simp; omega⟩
    · cases h2
  · cases h
def chkFld (P : Program) (s : TypeId) (f off : Nat) (agg : Bool) (n : Nat) : Bool :=
  match fldOf P s f with
  | some fl => Nat.beq fl.offset off && tyOK P fl.type agg n
  | none => false
theorem chkFld_eq {P : Program} {s : TypeId} {f off n : Nat} {agg : Bool} (h : chkFld P s f off agg n = true) : ∃ fl, fldOf P s f = some fl ∧ fl.offset = off ∧ tyOK P fl.type agg n = true := by
  unfold chkFld at h
  split at h
  · rename_i fl hfl
    simp only [Bool.and_eq_true] at h
    exact ⟨fl, hfl, beq_eq h.1, h.2⟩
  · cases h

def chkMkS (P : Program) (G : Gl) (t : TypeId) (parts : List (Nat × Operand)) (ps : List Pc) : Bool :=
  match P.underlying t, zeroCellsOf P t with
  | some (.struct fs), some zs => fs.toList.all (hasInfo P) && chkPcs G (placeS P fs.toList) 0 ps parts zs
  | _, _ => false
def chkMkA (P : Program) (G : Gl) (t : TypeId) (parts : List (Nat × Operand)) (ps : List Pc) : Bool :=
  match P.underlying t, zeroCellsOf P t with
  | some (.array _ el), some zs => (match P.info? el with
    | some i => chkPcs G (fun j => some (j * i.size, i.size)) 0 ps parts zs
    | none => false)
  | _, _ => false
def chkMkSl (P : Program) (G : Gl) (t : TypeId) (len : Nat) (parts : List (Nat × Operand)) (sz : Nat) (ps : List Pc) : Bool :=
  slE P t fun el => szIs P el sz && (match zeroCellsOf P el with
    | some zs => Nat.beq zs.length sz && Nat.beq ps.length len && Nat.ble (len * sz) 16777216 && chkPcs G (fun j => some (j * sz, sz)) 0 ps parts (repCells len zs)
    | none => false)

def chkI (P : Program) (G : Gl) (op : Op) : I → Bool
  | .mv x => match op with
    | .move y | .assign y => chkOpd G x y
    | _ => false
  | .mvf x => match op with
    | .move y | .assign y => chkOpd G x y
    | _ => false
  | .nsl _ => match op with
    | .move (.const (.slice none 0 0)) | .assign (.const (.slice none 0 0)) => true
    | _ => false
  | .pick c x y => match op with
    | .pick c' x' y' => chkOpd G c c' && chkOpd G x x' && chkOpd G y y'
    | _ => false
  | .alloc z _ => match op with
    | .alloc t => zeroOK P t z
    | _ => false
  | .box x _ => match op with
    | .box _ x' => chkOpd G x x'
    | _ => false
  | .mkS ps => match op with
    | .build t parts => chkMkS P G t parts.toList ps
    | _ => false
  | .mkA _ ps => match op with
    | .build t parts => chkMkA P G t parts.toList ps
    | _ => false
  | .mkSl sz ps => match op with
    | .buildSlice t len parts => chkMkSl P G t len parts.toList sz ps
    | _ => false
  | .mkSlF sz ps => match op with
    | .buildSlice t len parts => chkMkSl P G t len parts.toList sz ps
    | _ => false
  | .load agg n x => match op with
    | .load t x' => chkOpd G x x' && tyOK P t agg n
    | _ => false
  | .store n x y _ => match op with
    | .store t x' y' => chkOpd G x x' && chkOpd G y y' && szIs P t n
    | _ => false
  | .storeN n _ x => match op with
    | .store t x' (.const (.slice none 0 0)) => chkOpd G x x' && szIs P t n
    | _ => false
  | .nilck x => match op with
    | .nilCheck x' => chkOpd G x x'
    | _ => false
  | .arith b x y => match op with
    | .binOp b' _ x' y' _ => decide (b = b') && chkOpd G x x' && chkOpd G y y'
    | _ => false
  | .cmp b x y => match op with
    | .binOp b' _ x' y' _ => decide (b = b') && chkOpd G x x' && chkOpd G y y'
    | _ => false
  | .cmpb neg x y => match op with
    | .binOp b' t x' y' _ => decide (b' = if neg then .neq else .eql) && isBoolT P t && chkOpd G x x' && chkOpd G y y'
    | _ => false
  | .eqs neg sh x y => match op with
    | .binOp b' t x' y' _ => decide (b' = if neg then .neq else .eql) && eqSh P 100 t sh && sh.isAgg && !P.eqGuardType P.depth t && chkOpd G x x' && chkOpd G y y'
    | _ => false
  | .isnil kd neg x => match op with
    | .binOp b' t x' y' _ => decide (b' = if neg then .neq else .eql) && nilT P t kd && ((chkOpd G x x' && nilOf kd y') || (chkOpd G x y' && nilOf kd x'))
    | _ => false
  | .un u x => match op with
    | .unOp u' _ x' => decide (u = u') && chkOpd G x x'
    | _ => false
  | .toInt j x => match op with
    | .convert s d x' => chkOpd G x x' && (P.underlying s).isSome && isInt P d j
    | _ => false
  | .b2s x => match op with
    | .convert s d x' => chkOpd G x x' && (slE P s fun el => isU8 P el) && isStr P d
    | _ => false
  | .s2b x => match op with
    | .convert s d x' => chkOpd G x x' && (slE P d fun el => isU8 P el) && isStr P s
    | _ => false
  | .mks x => match op with
    | .convert s d x' => chkOpd G x x' && Nat.beq s d && (slE P s fun el => isU8 P el)
    | _ => false
  | .mkfn f xs ys => match op with
    | .makeFunc (.func f') xs' ys' => Nat.beq f f' && chkOpds G xs xs'.toList && chkOpds G ys ys'.toList
    | _ => false
  | .mkmap => match op with
    | .makeMap _ none => true
    | _ => false
  | .mksl esz bytes z l c => match op with
    | .makeSlice t l' c' => chkOpd G l l' && chkOpd G c c' && (slE P t fun el => zeroOK P el z && szB P el esz bytes)
    | _ => false
  | .slice esz x lo hi mx => match op with
    | .slice t x' lo' hi' mx' => chkOpd G x x' && chkOO G lo lo' && chkOO G hi hi' && chkOO G mx mx' && (slE P t fun el => szIs P el esz)
    | _ => false
  | .sliceS x lo hi => match op with
    | .slice t x' lo' hi' none => chkOpd G x x' && chkOO G lo lo' && chkOO G hi hi' && isStr P t
    | _ => false
  | .sliceA n x lo hi mx => match op with
    | .slice t x' lo' hi' mx' => chkOpd G x x' && chkOO G lo lo' && chkOO G hi hi' && chkOO G mx mx' && (parE P t n fun el => szIs P el 1)
    | _ => false
  | .fa off f x => match op with
    | .fieldAddr s x' f' => Nat.beq f f' && chkOpd G x x' && chkFa P s f off
    | .indexAddr t x' (.const (.int _ m)) => chkOpd G x x' && chkFaC P t m off
    | _ => false
  | .fld agg off n f x => match op with
    | .field s x' f' => Nat.beq f f' && chkOpd G x x' && chkFld P s f off agg n
    | _ => false
  | .ia esz x i => match op with
    | .indexAddr t x' i' => chkOpd G x x' && chkOpd G i i' && (slE P t fun el => szIs P el esz)
    | _ => false
  | .iaA n x i => match op with
    | .indexAddr t x' i' => chkOpd G x x' && chkOpd G i i' && (arrE P t n fun el => szIs P el 1)
    | _ => false
  | .iaC n esz x i => match op with
    | .indexAddr t x' i' => chkOpd G x x' && chkOpd G i i' && (arrE P t n fun el => szIs P el esz)
    | _ => false
  | .ixA n x i => match op with
    | .index t x' i' => chkOpd G x x' && chkOpd G i i' && (arrE P t n fun el => tyOK P el false 1)
    | _ => false
  | .ixS x i => match op with
    | .index t x' i' => chkOpd G x x' && chkOpd G i i' && isStr P t
    | _ => false
  | .ext x i => match op with
    | .extract x' i' => chkOpd G x x' && Nat.beq i i'
    | _ => false
  | .call f _ xs => callV op fun f' xs' => chkOpd G (.fn f) f' && chkOpds G xs xs'
  | .callv x _ xs => callV op fun x' xs' => chkOpd G x x' && chkOpds G xs xs'
  | .lenL x => callB op fun b xs ts => match b, xs, ts with
    | .len, [x'], [t] => chkOpd G x x' && slE P t fun _ => true
    | _, _, _ => false
  | .lenS x => callB op fun b xs ts => match b, xs, ts with
    | .len, [x'], [t] => chkOpd G x x' && isStr P t
    | _, _, _ => false
  | .lenM x => callB op fun b xs ts => match b, xs, ts with
    | .len, [x'], [t] => chkOpd G x x' && (match P.underlying t with
      | some (.map _ _) => true
      | _ => false)
    | _, _, _ => false
  | .lenA n => callB op fun b xs ts => match b, xs, ts with
    | .len, [_], [t] => parE P t n fun _ => true
    | _, _, _ => false
  | .append _ esz bytes s x => callB op fun b xs ts => match b, xs, ts with
    | .append, [s', x'], [t, tx] => chkOpd G s s' && chkOpd G x x' && chkApp P t tx esz bytes
    | _, _, _ => false
  | .copy esz d s => callB op fun b xs ts => match b, xs, ts with
    | .copy, [d', s'], [t, _] => chkOpd G d d' && chkOpd G s s' && slE P t fun el => szIs P el esz
    | _, _, _ => false
  | .clear esz z x => callB op fun b xs ts => match b, xs, ts with
    | .clear, [x'], [t] => chkOpd G x x' && slE P t fun el => zeroOK P el z && szIs P el esz
    | _, _, _ => false
  | .mnmx mx xs => callB op fun b xs' _ => match mx, b with
    | true, .max => chkOpds G xs xs'
    | false, .min => chkOpds G xs xs'
    | _, _ => false
  | .lookup ok z sh x y => match op with
    | .lookup t x' y' ok' => (ok == ok') && chkOpd G x x' && chkOpd G y y' && mapT P t fun kt et => eqSh P 100 kt sh && zeroOK P et z
    | _ => false
  | .mapup sh x y v => match op with
    | .mapUpdate t x' y' v' => chkOpd G x x' && chkOpd G y y' && chkOpd G v v' && mapT P t fun kt _ => eqSh P 100 kt sh
    | .insert t x' y' v' => chkOpd G x x' && chkOpd G y y' && chkOpd G v v' && mapT P t fun kt _ => eqSh P 100 kt sh
    | _ => false
  | .del sh x y => callB op fun b xs ts => match b, xs, ts with
    | .delete, [x', y'], [t, _] => chkOpd G x x' && chkOpd G y y' && mapT P t fun kt _ => eqSh P 100 kt sh
    | _, _, _ => false

theorem chkI_sound {o : Oper} {i : I} (h : chkI X.P X.G o.op i = true) : OpW X o i := by
  unfold chkI at h
  split at h
  -- mv
  · split at h
    · rename_i y ho; exact (op_mv h (.inl rfl)).toS.toW ho
    · rename_i y ho; exact (op_mv h (.inr rfl)).toS.toW ho
    · cases h
  -- mvf
  · split at h
    · rename_i y ho; exact (op_mvf h (.inl rfl)).toW ho
    · rename_i y ho; exact (op_mvf h (.inr rfl)).toW ho
    · cases h
  -- nsl
  · split at h
    · rename_i ho; exact (op_nsl (.inl rfl)).toW ho
    · rename_i ho; exact (op_nsl (.inr rfl)).toW ho
    · cases h
  -- pick
  · split at h
    · rename_i ho
      simp only [Bool.and_eq_true] at h
      exact (op_pick h.1.1 h.1.2 h.2).toS.toW ho
    · cases h
  -- alloc
  · split at h
    · rename_i ho; exact (op_alloc h).toW ho
    · cases h
  -- box
  · split at h
    · rename_i ho; exact (op_box h).toW ho
    · cases h
  -- mkS
  · split at h
    · rename_i ho
      unfold chkMkS at h
      split at h
      · rename_i fs zs h1 h2
        simp only [Bool.and_eq_true] at h
        exact (op_mkS h1 h.1 h2 h.2).toS.toW ho
      · cases h
    · cases h
  -- mkA
  · split at h
    · rename_i ho
      unfold chkMkA at h
      split at h
      · rename_i m el zs h1 h2
        split at h
        · rename_i inf hinf
          exact (op_mkA h1 (sz := inf.size) (by rw [hinf]; rfl) h2 h).toS.toW ho
        · cases h
      · cases h
    · cases h
  -- mkSl
  · split at h
    · rename_i ho
      unfold chkMkSl at h
      obtain ⟨el, h1, h⟩ := slE_eq h
      simp only [Bool.and_eq_true] at h
      obtain ⟨h2, h⟩ := h
      split at h
      · rename_i zs hz
        simp only [Bool.and_eq_true] at h
        obtain ⟨⟨⟨h3, h4⟩, h5⟩, h6⟩ := h
        exact (op_mkSl h1 (szIs_eq h2) hz (beq_eq h3) (beq_eq h4) (Nat.le_of_ble_eq_true h5) h6).toW ho
      · cases h
    · cases h
  -- mkSlF
  · split at h
    · rename_i ho
      unfold chkMkSl at h
      obtain ⟨el, h1, h⟩ := slE_eq h
      simp only [Bool.and_eq_true] at h
      obtain ⟨h2, h⟩ := h
      split at h
      · rename_i zs hz
        simp only [Bool.and_eq_true] at h
        obtain ⟨⟨⟨h3, h4⟩, h5⟩, h6⟩ := h
        exact (op_mkSlF h1 (szIs_eq h2) hz (beq_eq h3) (beq_eq h4) (Nat.le_of_ble_eq_true h5) h6).toW ho
      · cases h
    · cases h
  -- load
  · split at h
    · rename_i ho
      simp only [Bool.and_eq_true] at h
      exact (op_load h.1 h.2).toS.toW ho
    · cases h
  -- store
  · split at h
    · rename_i ho
      simp only [Bool.and_eq_true] at h
      exact (op_store h.1.1 h.1.2 (szIs_eq h.2)).toW ho
    · cases h
  -- storeN
  · split at h
    · rename_i ho
      simp only [Bool.and_eq_true] at h
      exact (op_storeN h.1 (szIs_eq h.2)).toW ho
    · cases h
  -- nilck
  · split at h
    · rename_i ho; exact (op_nilck h).toS.toW ho
    · cases h
  -- arith
  · split at h
    · rename_i ho
      simp only [Bool.and_eq_true, decide_eq_true_eq] at h
      obtain ⟨⟨rfl, h2⟩, h3⟩ := h
      exact (op_arith h2 h3).toS.toW ho
    · cases h
  -- cmp
  · split at h
    · rename_i ho
      simp only [Bool.and_eq_true, decide_eq_true_eq] at h
      obtain ⟨⟨rfl, h2⟩, h3⟩ := h
      exact (op_cmp h2 h3).toS.toW ho
    · cases h
  -- cmpb
  · split at h
    · rename_i ho
      simp only [Bool.and_eq_true, decide_eq_true_eq] at h
      exact (op_cmpb h.1.2 h.2 h.1.1.1 (isBoolT_eq h.1.1.2)).toS.toW ho
    · cases h
  -- eqs
  · split at h
    · rename_i ho
      simp only [Bool.and_eq_true, decide_eq_true_eq, Bool.not_eq_true'] at h
      exact (op_eqs h.1.2 h.2 h.1.1.1.1.1 h.1.1.1.1.2 h.1.1.1.2 h.1.1.2).toS.toW ho
    · cases h
  -- isnil
  · split at h
    · rename_i ho
      simp only [Bool.and_eq_true, Bool.or_eq_true, decide_eq_true_eq] at h
      obtain ⟨⟨h1, h2⟩, h3⟩ := h
      obtain ⟨d, hd, hk⟩ := nilT_eq h2
      rcases h3 with h3 | h3
      · exact (op_isnil h3.1 h1 hd hk (.inl ⟨rfl, nilOf_eq h3.2⟩)).toS.toW ho
      · exact (op_isnil h3.1 h1 hd hk (.inr ⟨rfl, nilOf_eq h3.2⟩)).toS.toW ho
    · cases h
  -- un
  · split at h
    · rename_i ho
      simp only [Bool.and_eq_true, decide_eq_true_eq] at h
      obtain ⟨rfl, h2⟩ := h
      exact (op_un h2).toS.toW ho
    · cases h
  -- toInt
  · split at h
    · rename_i ho
      simp only [Bool.and_eq_true] at h
      exact (op_toInt h.1.1 h.1.2 (isInt_eq h.2)).toS.toW ho
    · cases h
  -- b2s
  · split at h
    · rename_i ho
      simp only [Bool.and_eq_true] at h
      obtain ⟨el, h1, h2⟩ := slE_eq h.1.2
      exact (op_b2s h.1.1 h1 (isStr_eq h.2) (isU8_eq h2)).toS.toW ho
    · cases h
  -- s2b
  · split at h
    · rename_i ho
      simp only [Bool.and_eq_true] at h
      obtain ⟨el, h1, h2⟩ := slE_eq h.1.2
      exact (op_s2b h.1.1 (isStr_eq h.2) h1 (isU8_eq h2)).toW ho
    · cases h
  -- mks
  · split at h
    · rename_i ho
      simp only [Bool.and_eq_true] at h
      obtain ⟨el, h1, h2⟩ := slE_eq h.2
      obtain rfl := Nat.eq_of_beq_eq_true h.1.2
      exact (op_mks h.1.1 h1 (isU8_eq h2)).toW ho
    · cases h
  -- mkfn
  · split at h
    · rename_i ho
      simp only [Bool.and_eq_true] at h
      have := beq_eq h.1.1
      subst this
      exact (op_mkfn h.1.2 h.2).toS.toW ho
    · cases h
  -- mkmap
  · split at h
    · rename_i ho; exact op_mkmap.toW ho
    · cases h
  -- mksl
  · split at h
    · rename_i ho
      simp only [Bool.and_eq_true] at h
      obtain ⟨el, h1, h2⟩ := slE_eq h.2
      simp only [Bool.and_eq_true] at h2
      exact (op_mksl h.1.1 h.1.2 h1 h2.1 (szB_eq h2.2)).toW ho
    · cases h
  -- slice
  · split at h
    · rename_i ho
      simp only [Bool.and_eq_true] at h
      obtain ⟨el, h1, h2⟩ := slE_eq h.2
      exact (op_slice h.1.1.1.1 h.1.1.1.2 h.1.1.2 h.1.2 h1 (szIs_eq h2)).toS.toW ho
    · cases h
  -- sliceS
  · split at h
    · rename_i ho
      simp only [Bool.and_eq_true] at h
      exact (op_sliceS h.1.1.1 h.1.1.2 h.1.2 (isStr_eq h.2)).toS.toW ho
    · cases h
  -- sliceA
  · split at h
    · rename_i ho
      simp only [Bool.and_eq_true] at h
      obtain ⟨el, h1, h2⟩ := parE_eq h.2
      exact (op_sliceA h.1.1.1.1 h.1.1.1.2 h.1.1.2 h.1.2 h1 (szIs_eq h2)).toS.toW ho
    · cases h
  -- fa
  · split at h
    · rename_i ho
      simp only [Bool.and_eq_true] at h
      have := beq_eq h.1.1
      subst this
      obtain ⟨fl, n, h1, h2, h3⟩ := chkFa_eq h.2
      exact (op_fa h.1.2 h1 h2 h3).toS.toW ho
    · rename_i ho
      simp only [Bool.and_eq_true] at h
      obtain ⟨el, n, esz, h1, h2, h3, h4, h5⟩ := chkFaC_eq h.2
      exact (op_faC h.1 h1 h2 h3 h4 h5).toS.toW ho
    · cases h
  -- fld
  · split at h
    · rename_i ho
      simp only [Bool.and_eq_true] at h
      have := beq_eq h.1.1
      subst this
      obtain ⟨fl, h1, h2, h3⟩ := chkFld_eq h.2
      exact (op_fld h.1.2 h1 h2 h3).toS.toW ho
    · cases h
  -- ia
  · split at h
    · rename_i ho
      simp only [Bool.and_eq_true] at h
      obtain ⟨el, h1, h2⟩ := slE_eq h.2
      exact (op_ia h.1.1 h.1.2 h1 (szIs_eq h2)).toS.toW ho
    · cases h
  -- iaA
  · split at h
    · rename_i ho
      simp only [Bool.and_eq_true] at h
      obtain ⟨el, h1, h2⟩ := arrE_eq h.2
      exact (op_iaA h.1.1 h.1.2 h1 (szIs_eq h2)).toS.toW ho
    · cases h
  -- iaC
  · split at h
    · rename_i ho
      simp only [Bool.and_eq_true] at h
      obtain ⟨el, h1, h2⟩ := arrE_eq h.2
      exact (op_iaC h.1.1 h.1.2 h1 (szIs_eq h2)).toS.toW ho
    · cases h
  -- ixA
  · split at h
    · rename_i ho
      simp only [Bool.and_eq_true] at h
      obtain ⟨el, h1, h2⟩ := arrE_eq h.2
      exact (op_ixA h.1.1 h.1.2 h1 h2).toS.toW ho
    · cases h
  -- ixS
  · split at h
    · rename_i ho
      simp only [Bool.and_eq_true] at h
      exact (op_ixS h.1.1 h.1.2 (isStr_eq h.2) rfl).toS.toW ho
    · cases h
  -- ext
  · split at h
    · rename_i ho
      simp only [Bool.and_eq_true] at h
      have := beq_eq h.2
      subst this
      exact (op_ext h.1).toS.toW ho
    · cases h
  -- call
  · obtain ⟨f', xs', ts, ho, h⟩ := callV_eq h
    simp only [Bool.and_eq_true] at h
    exact op_call h.1 h.2 ho
  -- callv
  · obtain ⟨x', xs', ts, ho, h⟩ := callV_eq h
    simp only [Bool.and_eq_true] at h
    exact op_callv h.1 h.2 ho
  -- lenL
  · obtain ⟨b, xs, ts, ho, h⟩ := callB_eq h
    split at h
    · rename_i h1 h2
      rw [arr_of h1, arr_of h2] at ho
      simp only [Bool.and_eq_true] at h
      obtain ⟨el, h3, _⟩ := slE_eq h.2
      exact (op_lenL h.1 h3).toS.toW ho
    · cases h
  -- lenS
  · obtain ⟨b, xs, ts, ho, h⟩ := callB_eq h
    split at h
    · rename_i h1 h2
      rw [arr_of h1, arr_of h2] at ho
      simp only [Bool.and_eq_true] at h
      exact (op_lenS h.1 (isStr_eq h.2)).toS.toW ho
    · cases h
  -- lenM
  · obtain ⟨b, xs, ts, ho, h⟩ := callB_eq h
    split at h
    · rename_i h1 h2
      rw [arr_of h1, arr_of h2] at ho
      simp only [Bool.and_eq_true] at h
      obtain ⟨h3, h4⟩ := h
      split at h4
      · rename_i q u hq; exact (op_lenM h3 hq).toS.toW ho
      · cases h4
    · cases h
  -- lenA
  · obtain ⟨b, xs, ts, ho, h⟩ := callB_eq h
    split at h
    · rename_i h1 h2
      rw [arr_of h1, arr_of h2] at ho
      obtain ⟨el, h3, _⟩ := parE_eq h
      exact (op_lenA h3).toS.toW ho
    · cases h
  -- append
  · obtain ⟨b, xs, ts, ho, h⟩ := callB_eq h
    split at h
    · rename_i h1 h2
      rw [arr_of h1, arr_of h2] at ho
      simp only [Bool.and_eq_true] at h
      exact (op_append h.1.1 h.1.2 h.2).toW ho
    · cases h
  -- copy
  · obtain ⟨b, xs, ts, ho, h⟩ := callB_eq h
    split at h
    · rename_i h1 h2
      rw [arr_of h1, arr_of h2] at ho
      simp only [Bool.and_eq_true] at h
      obtain ⟨el, h3, h4⟩ := slE_eq h.2
      exact (op_copy h.1.1 h.1.2 h3 (szIs_eq h4)).toW ho
    · cases h
  -- clear
  · obtain ⟨b, xs, ts, ho, h⟩ := callB_eq h
    split at h
    · rename_i h1 h2
      rw [arr_of h1, arr_of h2] at ho
      simp only [Bool.and_eq_true] at h
      obtain ⟨el, h3, h4⟩ := slE_eq h.2
      simp only [Bool.and_eq_true] at h4
      exact (op_clear h.1 h3 h4.1 (szIs_eq h4.2)).toW ho
    · cases h
  -- mnmx
  · obtain ⟨b, xs, ts, ho, h⟩ := callB_eq h
    split at h
    · exact (op_mnmx (mx := true) h).toS.toW ho
    · exact (op_mnmx (mx := false) h).toS.toW ho
    · cases h
  -- lookup
  · split at h
    · rename_i ho
      simp only [Bool.and_eq_true, beq_iff_eq] at h
      obtain ⟨⟨⟨h1, h2⟩, h3⟩, h4⟩ := h
      subst h1
      obtain ⟨kt, et, h5, h6⟩ := mapT_eq h4
      simp only [Bool.and_eq_true] at h6
      exact (op_lookup h2 h3 h5 h6.1 h6.2).toS.toW ho
    · cases h
  -- mapup
  · split at h
    · rename_i ho
      simp only [Bool.and_eq_true] at h
      obtain ⟨⟨⟨h1, h2⟩, h3⟩, h4⟩ := h
      obtain ⟨kt, et, h5, h6⟩ := mapT_eq h4
      exact (op_mapup h1 h2 h3 h5 h6 (.inl rfl)).toW ho
    · rename_i ho
      simp only [Bool.and_eq_true] at h
      obtain ⟨⟨⟨h1, h2⟩, h3⟩, h4⟩ := h
      obtain ⟨kt, et, h5, h6⟩ := mapT_eq h4
      exact (op_mapup h1 h2 h3 h5 h6 (.inr rfl)).toW ho
    · cases h
  -- del
  · obtain ⟨b, xs, ts, ho, h⟩ := callB_eq h
    split at h
    · rename_i h1 h2
      rw [arr_of h1, arr_of h2] at ho
      simp only [Bool.and_eq_true] at h
      obtain ⟨⟨h3, h4⟩, h5⟩ := h
      obtain ⟨kt, et, h6, h7⟩ := mapT_eq h5
      exact (op_del h3 h4 h6 h7).toW ho
    · cases h
def I.ro : I → Bool
  | .mv _ | .pick _ _ _ | .mkS _ | .mkA _ _ | .load _ _ _ | .nilck _ | .arith _ _ _ | .cmp _ _ _ | .cmpb _ _ _ | .eqs _ _ _ _ | .isnil _ _ _ | .un _ _ | .toInt _ _ | .b2s _ | .mkfn _ _ _ | .slice _ _ _ _ _ | .sliceS _ _ _ | .sliceA _ _ _ _ _
  | .fa _ _ _ | .fld _ _ _ _ _ | .ia _ _ _ | .iaA _ _ _ | .iaC _ _ _ _ | .ixA _ _ _ | .ixS _ _ | .ext _ _ | .lenL _ | .lenS _ | .lenM _ | .lenA _ | .mnmx _ _ | .lookup _ _ _ _ _ => true
  | _ => false

theorem chkI0 {o : Oper} {i : I} (hro : i.ro = true) (h : chkI X.P X.G o.op i = true) : OpS0 X o.op i := by
  unfold chkI at h
  split at h
  -- mv
  · split at h
    · rename_i y ho; rw [ho]; exact (op_mv h (.inl rfl))
    · rename_i y ho; rw [ho]; exact (op_mv h (.inr rfl))
    · cases h
  -- mvf
  · split at h
    · rename_i ho; cases hro
    · rename_i ho; cases hro
    · cases h
  -- nsl
  · split at h
    · rename_i ho; cases hro
    · rename_i ho; cases hro
    · cases h
  -- pick
  · split at h
    · rename_i ho
      simp only [Bool.and_eq_true] at h
      rw [ho]; exact (op_pick h.1.1 h.1.2 h.2)
    · cases h
  -- alloc
  · split at h
    · rename_i ho; cases hro
    · cases h
  -- box
  · split at h
    · rename_i ho; cases hro
    · cases h
  -- mkS
  · split at h
    · rename_i ho
      unfold chkMkS at h
      split at h
      · rename_i fs zs h1 h2
        simp only [Bool.and_eq_true] at h
        rw [ho]; exact (op_mkS h1 h.1 h2 h.2)
      · cases h
    · cases h
  -- mkA
  · split at h
    · rename_i ho
      unfold chkMkA at h
      split at h
      · rename_i m el zs h1 h2
        split at h
        · rename_i inf hinf
          rw [ho]; exact (op_mkA h1 (sz := inf.size) (by rw [hinf]; rfl) h2 h)
        · cases h
      · cases h
    · cases h
  -- mkSl
  · split at h
    · rename_i ho
      unfold chkMkSl at h
      obtain ⟨el, h1, h⟩ := slE_eq h
      simp only [Bool.and_eq_true] at h
      obtain ⟨h2, h⟩ := h
      split at h
      · rename_i zs hz
        simp only [Bool.and_eq_true] at h
        obtain ⟨⟨⟨h3, h4⟩, h5⟩, h6⟩ := h
        cases hro
      · cases h
    · cases h
  -- mkSlF
  · split at h
    · rename_i ho
      unfold chkMkSl at h
      obtain ⟨el, h1, h⟩ := slE_eq h
      simp only [Bool.and_eq_true] at h
      obtain ⟨h2, h⟩ := h
      split at h
      · rename_i zs hz
        simp only [Bool.and_eq_true] at h
        obtain ⟨⟨⟨h3, h4⟩, h5⟩, h6⟩ := h
        cases hro
      · cases h
    · cases h
  -- load
  · split at h
    · rename_i ho
      simp only [Bool.and_eq_true] at h
      rw [ho]; exact (op_load h.1 h.2)
    · cases h
  -- store
  · split at h
    · rename_i ho
      simp only [Bool.and_eq_true] at h
      cases hro
    · cases h
  -- storeN
  · split at h
    · rename_i ho
      cases hro
    · cases h
  -- nilck
  · split at h
    · rename_i ho; rw [ho]; exact (op_nilck h)
    · cases h
  -- arith
  · split at h
    · rename_i ho
      simp only [Bool.and_eq_true, decide_eq_true_eq] at h
      obtain ⟨⟨rfl, h2⟩, h3⟩ := h
      rw [ho]; exact (op_arith h2 h3)
    · cases h
  -- cmp
  · split at h
    · rename_i ho
      simp only [Bool.and_eq_true, decide_eq_true_eq] at h
      obtain ⟨⟨rfl, h2⟩, h3⟩ := h
      rw [ho]; exact (op_cmp h2 h3)
    · cases h
  -- cmpb
  · split at h
    · rename_i ho
      simp only [Bool.and_eq_true, decide_eq_true_eq] at h
      rw [ho]; exact (op_cmpb h.1.2 h.2 h.1.1.1 (isBoolT_eq h.1.1.2))
    · cases h
  -- eqs
  · split at h
    · rename_i ho
      simp only [Bool.and_eq_true, decide_eq_true_eq, Bool.not_eq_true'] at h
      rw [ho]; exact (op_eqs h.1.2 h.2 h.1.1.1.1.1 h.1.1.1.1.2 h.1.1.1.2 h.1.1.2)
    · cases h
  -- isnil
  · split at h
    · rename_i ho
      simp only [Bool.and_eq_true, Bool.or_eq_true, decide_eq_true_eq] at h
      obtain ⟨⟨h1, h2⟩, h3⟩ := h
      obtain ⟨d, hd, hk⟩ := nilT_eq h2
      rcases h3 with h3 | h3
      · rw [ho]; exact (op_isnil h3.1 h1 hd hk (.inl ⟨rfl, nilOf_eq h3.2⟩))
      · rw [ho]; exact (op_isnil h3.1 h1 hd hk (.inr ⟨rfl, nilOf_eq h3.2⟩))
    · cases h
  -- un
  · split at h
    · rename_i ho
      simp only [Bool.and_eq_true, decide_eq_true_eq] at h
      obtain ⟨rfl, h2⟩ := h
      rw [ho]; exact (op_un h2)
    · cases h
  -- toInt
  · split at h
    · rename_i ho
      simp only [Bool.and_eq_true] at h
      rw [ho]; exact (op_toInt h.1.1 h.1.2 (isInt_eq h.2))
    · cases h
  -- b2s
  · split at h
    · rename_i ho
      simp only [Bool.and_eq_true] at h
      obtain ⟨el, h1, h2⟩ := slE_eq h.1.2
      rw [ho]; exact (op_b2s h.1.1 h1 (isStr_eq h.2) (isU8_eq h2))
    · cases h
  -- s2b
  · split at h
    · rename_i ho
      simp only [Bool.and_eq_true] at h
      obtain ⟨el, h1, h2⟩ := slE_eq h.1.2
      cases hro
    · cases h
  -- mks
  · cases hro
  -- mkfn
  · split at h
    · rename_i ho
      simp only [Bool.and_eq_true] at h
      have := beq_eq h.1.1
      subst this
      rw [ho]; exact (op_mkfn h.1.2 h.2)
    · cases h
  -- mkmap
  · split at h
    · rename_i ho; cases hro
    · cases h
  -- mksl
  · split at h
    · rename_i ho
      simp only [Bool.and_eq_true] at h
      obtain ⟨el, h1, h2⟩ := slE_eq h.2
      simp only [Bool.and_eq_true] at h2
      cases hro
    · cases h
  -- slice
  · split at h
    · rename_i ho
      simp only [Bool.and_eq_true] at h
      obtain ⟨el, h1, h2⟩ := slE_eq h.2
      rw [ho]; exact (op_slice h.1.1.1.1 h.1.1.1.2 h.1.1.2 h.1.2 h1 (szIs_eq h2))
    · cases h
  -- sliceS
  · split at h
    · rename_i ho
      simp only [Bool.and_eq_true] at h
      rw [ho]; exact (op_sliceS h.1.1.1 h.1.1.2 h.1.2 (isStr_eq h.2))
    · cases h
  -- sliceA
  · split at h
    · rename_i ho
      simp only [Bool.and_eq_true] at h
      obtain ⟨el, h1, h2⟩ := parE_eq h.2
      rw [ho]; exact (op_sliceA h.1.1.1.1 h.1.1.1.2 h.1.1.2 h.1.2 h1 (szIs_eq h2))
    · cases h
  -- fa
  · split at h
    · rename_i ho
      simp only [Bool.and_eq_true] at h
      have := beq_eq h.1.1
      subst this
      obtain ⟨fl, n, h1, h2, h3⟩ := chkFa_eq h.2
      rw [ho]; exact (op_fa h.1.2 h1 h2 h3)
    · rename_i ho
      simp only [Bool.and_eq_true] at h
      obtain ⟨el, n, esz, h1, h2, h3, h4, h5⟩ := chkFaC_eq h.2
      rw [ho]; exact (op_faC h.1 h1 h2 h3 h4 h5)
    · cases h
  -- fld
  · split at h
    · rename_i ho
      simp only [Bool.and_eq_true] at h
      have := beq_eq h.1.1
      subst this
      obtain ⟨fl, h1, h2, h3⟩ := chkFld_eq h.2
      rw [ho]; exact (op_fld h.1.2 h1 h2 h3)
    · cases h
  -- ia
  · split at h
    · rename_i ho
      simp only [Bool.and_eq_true] at h
      obtain ⟨el, h1, h2⟩ := slE_eq h.2
      rw [ho]; exact (op_ia h.1.1 h.1.2 h1 (szIs_eq h2))
    · cases h
  -- iaA
  · split at h
    · rename_i ho
      simp only [Bool.and_eq_true] at h
      obtain ⟨el, h1, h2⟩ := arrE_eq h.2
      rw [ho]; exact (op_iaA h.1.1 h.1.2 h1 (szIs_eq h2))
    · cases h
  -- iaC
  · split at h
    · rename_i ho
      simp only [Bool.and_eq_true] at h
      obtain ⟨el, h1, h2⟩ := arrE_eq h.2
      rw [ho]; exact (op_iaC h.1.1 h.1.2 h1 (szIs_eq h2))
    · cases h
  -- ixA
  · split at h
    · rename_i ho
      simp only [Bool.and_eq_true] at h
      obtain ⟨el, h1, h2⟩ := arrE_eq h.2
      rw [ho]; exact (op_ixA h.1.1 h.1.2 h1 h2)
    · cases h
  -- ixS
  · split at h
    · rename_i ho
      simp only [Bool.and_eq_true] at h
      rw [ho]; exact (op_ixS h.1.1 h.1.2 (isStr_eq h.2) rfl)
    · cases h
  -- ext
  · split at h
    · rename_i ho
      simp only [Bool.and_eq_true] at h
      have := beq_eq h.2
      subst this
      rw [ho]; exact (op_ext h.1)
    · cases h
  -- call
  · obtain ⟨f', xs', ts, ho, h⟩ := callV_eq h
    simp only [Bool.and_eq_true] at h
    cases hro
  -- callv
  · obtain ⟨x', xs', ts, ho, h⟩ := callV_eq h
    simp only [Bool.and_eq_true] at h
    cases hro
  -- lenL
  · obtain ⟨b, xs, ts, ho, h⟩ := callB_eq h
    split at h
    · rename_i h1 h2
      rw [arr_of h1, arr_of h2] at ho
      simp only [Bool.and_eq_true] at h
      obtain ⟨el, h3, _⟩ := slE_eq h.2
      rw [ho]; exact (op_lenL h.1 h3)
    · cases h
  -- lenS
  · obtain ⟨b, xs, ts, ho, h⟩ := callB_eq h
    split at h
    · rename_i h1 h2
      rw [arr_of h1, arr_of h2] at ho
      simp only [Bool.and_eq_true] at h
      rw [ho]; exact (op_lenS h.1 (isStr_eq h.2))
    · cases h
  -- lenM
  · obtain ⟨b, xs, ts, ho, h⟩ := callB_eq h
    split at h
    · rename_i h1 h2
      rw [arr_of h1, arr_of h2] at ho
      simp only [Bool.and_eq_true] at h
      obtain ⟨h3, h4⟩ := h
      split at h4
      · rename_i q u hq; rw [ho]; exact (op_lenM h3 hq)
      · cases h4
    · cases h
  -- lenA
  · obtain ⟨b, xs, ts, ho, h⟩ := callB_eq h
    split at h
    · rename_i h1 h2
      rw [arr_of h1, arr_of h2] at ho
      obtain ⟨el, h3, _⟩ := parE_eq h
      rw [ho]; exact (op_lenA h3)
    · cases h
  -- append
  · obtain ⟨b, xs, ts, ho, h⟩ := callB_eq h
    split at h
    · rename_i h1 h2
      rw [arr_of h1, arr_of h2] at ho
      simp only [Bool.and_eq_true] at h
      cases hro
    · cases h
  -- copy
  · obtain ⟨b, xs, ts, ho, h⟩ := callB_eq h
    split at h
    · rename_i h1 h2
      rw [arr_of h1, arr_of h2] at ho
      simp only [Bool.and_eq_true] at h
      obtain ⟨el, h3, h4⟩ := slE_eq h.2
      cases hro
    · cases h
  -- clear
  · obtain ⟨b, xs, ts, ho, h⟩ := callB_eq h
    split at h
    · rename_i h1 h2
      rw [arr_of h1, arr_of h2] at ho
      simp only [Bool.and_eq_true] at h
      obtain ⟨el, h3, h4⟩ := slE_eq h.2
      simp only [Bool.and_eq_true] at h4
      cases hro
    · cases h
  -- mnmx
  · obtain ⟨b, xs, ts, ho, h⟩ := callB_eq h
    split at h
    · rw [ho]; exact (op_mnmx (mx := true) h)
    · rw [ho]; exact (op_mnmx (mx := false) h)
    · cases h
  -- lookup
  · split at h
    · rename_i ho
      simp only [Bool.and_eq_true, beq_iff_eq] at h
      obtain ⟨⟨⟨h1, h2⟩, h3⟩, h4⟩ := h
      subst h1
      obtain ⟨kt, et, h5, h6⟩ := mapT_eq h4
      simp only [Bool.and_eq_true] at h6
      rw [ho]; exact (op_lookup h2 h3 h5 h6.1 h6.2)
    · cases h
  -- mapup
  · split at h
    · cases hro
    · cases hro
    · cases h
  -- del
  · obtain ⟨b, xs, ts, ho, h⟩ := callB_eq h
    split at h
    · cases hro
    · cases h
end Stk
