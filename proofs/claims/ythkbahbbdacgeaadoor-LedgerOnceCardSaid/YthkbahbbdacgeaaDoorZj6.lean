/- Several texts of this claim, joined into one file. -/
import Derived.Test.YthkbahbbdacgeaaDoorZFwT
import Derived.Orders
section
/- The framework, part 15: an operation and its compact form. -/
namespace Stk
open Go
variable {X : Cx} {Q : Ex → Fr → Hp → Prop} {e : Env} {H : Hp} {w : World}

def mapT (P : Program) (t : TypeId) (f : TypeId → TypeId → Bool) : Bool :=
  match P.underlying t with
  | some (.map k e) => f k e
  | _ => false
theorem mapT_eq {P : Program} {t : TypeId} {f : TypeId → TypeId → Bool} (h : mapT P t f = true) : ∃ k e, P.underlying t = some (.map k e) ∧ f k e = true := by
  unfold mapT at h
  split at h
  · rename_i k e hk; exact ⟨k, e, hk, h⟩
  · cases h

/-- What is to be shown of what an operation gives. -/
def Upon (P : Program) (r : Result Next) (K : Value → World → Prop) : Prop :=
  match r with
  | .ok (.value c) w' => K c w'
  | .ok .skip w' => K undef w'
  | .ok (.enter f args) w' => Calls P f args w' fun en w'' => ∃ c, en = .returned c ∧ K c w''
  | _ => False
theorem Upon.wp {P : Program} {o : Oper} {a : Act} {w : World} {K : Value → World → Prop} (h : Upon P ((execOp a.eval o).run P w) K) {next : Act → World → Prop} {Qe : Exit → Act → World → Prop} (hn : ∀ c w', K c w' → next (a.put o.dst c) w') : o.wp P a w next Qe := by
  unfold Oper.wp
  generalize (execOp a.eval o).run P w = r at h
  unfold Upon at h
  split at h
  · exact hn _ _ h
  · exact hn _ _ h
  · rw [Oper.upon_enter]
    refine Calls.mono h ?_
    rintro en w' ⟨c, rfl, hk⟩
    exact hn _ _ hk
  · exact h.elim

theorem Upon.mono {P : Program} {r : Result Next} {K K' : Value → World → Prop} (h : Upon P r K) (hk : ∀ c w, K c w → K' c w) : Upon P r K' := by
  unfold Upon at *
  split at h
  · exact hk _ _ h
  · exact hk _ _ h
  · refine Calls.mono h ?_
    rintro en w' ⟨c, rfl, h⟩
    exact ⟨c, rfl, hk _ _ h⟩
  · exact h.elim
def OpW (X : Cx) (o : Oper) (i : I) : Prop :=
  ∀ e H w fr a Q k, Rel X.G e H w → FrR X.N e fr a → sat X Q (opT fr H i k) → Upon X.P ((execOp a.eval o).run X.P w) fun c w' => ∃ v e' H', AV.val e' v c ∧ Step X.G e H w e' H' w' ∧ sat X Q (k v H')

theorem OpS.toW {o : Oper} {op : Op} {i : I} (h : OpS X op i) (ho : o.op = op) : OpW X o i := by
  intro e H w fr a Q k hr hf hs
  obtain ⟨v, c, e', H', w', hrun, hv, hst, hk⟩ := h o ho e H w fr a Q k hr hf hs
  rcases hrun with hrun | ⟨hrun, rfl⟩
  · rw [hrun]; exact ⟨v, e', H', hv, hst, hk⟩
  · rw [hrun]; exact ⟨v, e', H', hv, hst, hk⟩

theorem run_callFunc {P : Program} {f : FuncId} (h : Callable P f) (args : Array Value) (w : World) : (callFunc f args).run P w = .ok (.enter f args) w := by
  obtain ⟨fn, h1, h2, h3⟩ := h
  have h2' : fn.name ≠ "runtime.NumGoroutine" := by simpa using h2
  have h3' : fn.body ≠ none := by intro h; simp [h] at h3
  simp [callFunc, program, Sem.run_bind, Sem.run, Result.andThen, h1, h2', h3']

theorem op_call {o : Oper} {f : FuncId} {f' : Operand} {bor : List Bool} {xs : List Opd} {xs' : Array Operand} {ats : Array TypeId} (hf' : chkOpd X.G (.fn f) f' = true) (hx : chkOpds X.G xs xs'.toList = true)
    (ho : o.op = .call { callee := .value f', args := xs', argTypes := ats }) : OpW X o (.call f bor xs) := by
  intro e H w fr a Q k hr hf hs
  have hfv : f' = .func f := by
    unfold chkOpd at hf'
    split at hf' <;> simp_all
  subst hfv
  simp only [opT, evsK_eq] at hs
  have hv : AV.vals e (xs.map (·.at fr)) (#[] ++ xs'.map a.eval ++ #[]).toList := by
    have := chkOpds_vals hr hf hx
    simpa using this
  obtain ⟨e1, H1, hs, st1, _, _, _, _⟩ := settleK_sound hr hs
  obtain ⟨hc, hcalls⟩ := callK_sound st1.rel (AV.vals_to (st1.to hr) hv) hs
  have : (execOp a.eval o).run X.P w = .ok (.enter f (#[] ++ xs'.map a.eval ++ #[])) w := by
    simp only [execOp, ho, resolve, Act.eval, Deferred.ofValue, pure_bind, invoke]
    exact run_callFunc hc _ w
  rw [this]
  refine Calls.mono hcalls ?_
  rintro en w' ⟨r, c, e', H', rfl, hrv, hst, hk⟩
  exact ⟨c, rfl, r, e', H', hrv, st1.trans hst, hk⟩

theorem AV.vals_append {e : Env} : ∀ {xs ys : List AV} {cs ds : List Value}, AV.vals e xs cs → AV.vals e ys ds → AV.vals e (xs ++ ys) (cs ++ ds)
  | [], ys, cs, ds, h, h' => by simp only [AV.vals] at h; subst h; simpa using h'
  | x :: xs, ys, cs, ds, h, h' => by
    simp only [AV.vals] at h
    obtain ⟨c, b, rfl, h1, h2⟩ := h
    simp only [List.cons_append, AV.vals]
    exact ⟨c, b ++ ds, rfl, h1, AV.vals_append h2 h'⟩

theorem op_callv {o : Oper} {x : Opd} {x' : Operand} {bor : List Bool} {xs : List Opd} {xs' : Array Operand} {ats : Array TypeId} (hx0 : chkOpd X.G x x' = true) (hx : chkOpds X.G xs xs'.toList = true)
    (ho : o.op = .call { callee := .value x', args := xs', argTypes := ats }) : OpW X o (.callv x bor xs) := by
  intro e H w fr a Q k hr hf hs
  have hxv := chkOpd_val hr hf hx0
  simp only [opT, evK_eq, evsK_eq] at hs
  split at hs
  · rename_i f first cap hxa
    rw [hxa] at hxv
    simp only [AV.val] at hxv
    obtain ⟨vs, ws, hc, h1, h2⟩ := hxv
    have hv : AV.vals e (first ++ xs.map (·.at fr) ++ cap) (vs ++ xs'.map a.eval ++ ws).toList := by
      have := chkOpds_vals hr hf hx
      simp only [Array.toList_append, Array.toList_map]
      exact AV.vals_append (AV.vals_append h1 this) h2
    obtain ⟨e1, H1, hs, st1, _, _, _, _⟩ := settleK_sound hr hs
    obtain ⟨hcb, hcalls⟩ := callK_sound st1.rel (AV.vals_to (st1.to hr) hv) hs
    have : (execOp a.eval o).run X.P w = .ok (.enter f (vs ++ xs'.map a.eval ++ ws)) w := by
      simp only [execOp, ho, resolve, hc, Deferred.ofValue, pure_bind, invoke]
      exact run_callFunc hcb _ w
    rw [this]
    refine Calls.mono hcalls ?_
    rintro en w' ⟨r, c, e', H', rfl, hrv, hst, hk⟩
    exact ⟨c, rfl, r, e', H', hrv, st1.trans hst, hk⟩
  · exact hs.elim

/-! ### The checker -/
def szIs (P : Program) (t : TypeId) (n : Nat) : Bool :=
  match P.info? t with
  | some i => Nat.beq i.size n
  | none => false
theorem szIs_eq {P : Program} {t : TypeId} {n : Nat} (h : szIs P t n = true) : (P.info? t).map (·.size) = some n := by
  unfold szIs at h
  split at h
  · rename_i i hi; rw [hi]; simp [beq_eq h]
  · cases h
def slE (P : Program) (t : TypeId) (k : TypeId → Bool) : Bool :=
  match P.underlying t with
  | some (.slice el) => k el
  | _ => false
theorem slE_eq {P : Program} {t : TypeId} {k : TypeId → Bool} (h : slE P t k = true) : ∃ el, P.underlying t = some (.slice el) ∧ k el = true := by
  unfold slE at h
  split at h
  · rename_i el hel; exact ⟨el, hel, h⟩
  · cases h
def isStr (P : Program) (t : TypeId) : Bool :=
  match P.underlying t with
  | some .string => true
  | _ => false
theorem isStr_eq {P : Program} {t : TypeId} (h : isStr P t = true) : P.underlying t = some .string := by
  unfold isStr at h
  split at h
  · rename_i he; exact he
  · cases h
def isU8 (P : Program) (t : TypeId) : Bool :=
  match P.underlying t with
  | some (.int .u8) => true
  | _ => false
theorem isU8_eq {P : Program} {t : TypeId} (h : isU8 P t = true) : P.underlying t = some (.int .u8) := by
  unfold isU8 at h
  split at h
  · rename_i he; exact he
  · cases h
def isBoolT (P : Program) (t : TypeId) : Bool :=
  match P.underlying t with
  | some .bool => true
  | _ => false
theorem isBoolT_eq {P : Program} {t : TypeId} (h : isBoolT P t = true) : P.underlying t = some .bool := by
  unfold isBoolT at h
  split at h
  · rename_i he; exact he
  · cases h
def arrE (P : Program) (t : TypeId) (n : Nat) (k : TypeId → Bool) : Bool :=
  match P.underlying t with
  | some (.array m el) => Nat.beq m n && k el
  | _ => false
theorem arrE_eq {P : Program} {t : TypeId} {n : Nat} {k : TypeId → Bool} (h : arrE P t n k = true) : ∃ el, P.underlying t = some (.array n el) ∧ k el = true := by
  unfold arrE at h
  split at h
  · rename_i m el hel
    simp only [Bool.and_eq_true] at h
    exact ⟨el, by rw [hel, beq_eq h.1], h.2⟩
  · cases h
/-- an array, or a pointer to one -/
def parE (P : Program) (t : TypeId) (n : Nat) (k : TypeId → Bool) : Bool :=
  match P.underlying t with
  | some (.array m el) => Nat.beq m n && k el
  | some (.pointer q) => arrE P q n k
  | _ => false
theorem parE_eq {P : Program} {t : TypeId} {n : Nat} {k : TypeId → Bool} (h : parE P t n k = true) : ∃ el, (P.underlying t = some (.array n el) ∨ ∃ q, P.underlying t = some (.pointer q) ∧ P.underlying q = some (.array n el)) ∧ k el = true := by
  unfold parE at h
  split at h
  · rename_i m el hel
    simp only [Bool.and_eq_true] at h
    exact ⟨el, .inl (by rw [hel, beq_eq h.1]), h.2⟩
  · rename_i q hq
    obtain ⟨el, h1, h2⟩ := arrE_eq h
    exact ⟨el, .inr ⟨q, hq, h1⟩, h2⟩
  · cases h

def callB (op : Op) (k : Builtin → List Operand → List TypeId → Bool) : Bool :=
  match op with
  | .call ⟨.builtin b, xs, ts⟩ => k b xs.toList ts.toList
  | _ => false
theorem callB_eq {op : Op} {k : Builtin → List Operand → List TypeId → Bool} (h : callB op k = true) : ∃ b xs ts, op = .call ⟨.builtin b, xs, ts⟩ ∧ k b xs.toList ts.toList = true := by
  unfold callB at h
  split at h
  · exact ⟨_, _, _, rfl, h⟩
  · cases h
def callV (op : Op) (k : Operand → List Operand → Bool) : Bool :=
  match op with
  | .call ⟨.value f, xs, _⟩ => k f xs.toList
  | _ => false
theorem callV_eq {op : Op} {k : Operand → List Operand → Bool} (h : callV op k = true) : ∃ f xs ts, op = .call ⟨.value f, xs, ts⟩ ∧ k f xs.toList = true := by
  unfold callV at h
  split at h
  · exact ⟨_, _, _, rfl, h⟩
  · cases h
theorem arr_of {α : Type} {xs : Array α} {l : List α} (h : xs.toList = l) : xs = l.toArray := by rw [← h]

def nilOf : NK → Operand → Bool
  | .ptr, .const (.pointer none) => true
  | .sl, .const (.slice none 0 0) => true
  | .mp, .const (.map none) => true
  | .fn, .const .nilFunc => true
  | .ifc, .const .nilIface => true
  | _, _ => false
theorem nilOf_eq {kd : NK} {y : Operand} (h : nilOf kd y = true) : y = .const (nilC kd) := by
  unfold nilOf at h
  split at h <;> first | rfl | cases h

def nilT (P : Program) (t : TypeId) (kd : NK) : Bool :=
  match P.underlying t with
  | some d => nkOK kd d
  | none => false
theorem nilT_eq {P : Program} {t : TypeId} {kd : NK} (h : nilT P t kd = true) : ∃ d, P.underlying t = some d ∧ nkOK kd d = true := by
  unfold nilT at h
  split at h
  · rename_i d hd; exact ⟨d, hd, h⟩
  · cases h

def szB (P : Program) (t : TypeId) (n b : Nat) : Bool :=
  match P.info? t with
  | some i => Nat.beq i.size n && Nat.beq i.bytes b
  | none => false
theorem szB_eq {P : Program} {t : TypeId} {n b : Nat} (h : szB P t n b = true) : (P.info? t).map (fun i => (i.size, i.bytes)) = some (n, b) := by
  unfold szB at h
  split at h
  · rename_i i hi
    simp only [Bool.and_eq_true] at h
    rw [hi]; simp [beq_eq h.1, beq_eq h.2]
  · cases h

def isInt (P : Program) (t : TypeId) (j : IntKind) : Bool :=
  match P.underlying t with
  | some (.int k) => kindEq j k
  | _ => false
theorem isInt_eq {P : Program} {t : TypeId} {j : IntKind} (h : isInt P t j = true) : P.underlying t = some (.int j) := by
  unfold isInt at h
  split at h
  · rename_i k hk; rw [hk, kindEq_eq h]
  · cases h

def chkFaC (P : Program) (t : TypeId) (m : Int) (off : Nat) : Bool :=
  match P.underlying t with
  | some (.array n el) => (match P.info? el with
    | some i => decide (0 ≤ m) && decide (m < (n : Int)) && Nat.beq (m.toNat * i.size) off
    | none => false)
  | _ => false
theorem chkFaC_eq {P : Program} {t : TypeId} {m : Int} {off : Nat} (h : chkFaC P t m off = true) : ∃ el n esz, P.underlying t = some (.array n el) ∧ (P.info? el).map (·.size) = some esz ∧ 0 ≤ m ∧ m < n ∧ m.toNat * esz = off := by
  unfold chkFaC at h
  split at h
  · rename_i n el hu
    split at h
    · rename_i i hi
      simp only [Bool.and_eq_true, decide_eq_true_eq] at h
      exact ⟨el, n, i.size, hu, by rw [hi]; rfl, h.1.1, h.1.2, beq_eq h.2⟩
    · cases h
  · cases h
def chkFa (P : Program) (s : TypeId) (f off : Nat) : Bool :=
  match fldOf P s f with
  | some fl => Nat.beq fl.offset off && (match P.info? fl.type with
    | some i => Nat.ble 1 i.size
    | none => false)
  | none => false
theorem chkFa_eq {P : Program} {s : TypeId} {f off : Nat} (h : chkFa P s f off = true) : ∃ fl n, fldOf P s f = some fl ∧ fl.offset = off ∧ (P.info? fl.type).map (·.size) = some (n + 1) := by
  unfold chkFa at h
  split at h
  · rename_i fl hfl
    simp only [Bool.and_eq_true] at h
    obtain ⟨h1, h2⟩ := h
    split at h2
    · rename_i i hi
      have := Nat.le_of_ble_eq_true h2
      exact ⟨fl, i.size - 1, hfl, beq_eq h1, by rw [hi]; simp; omega⟩
    · cases h2
  · cases h
def chkFld (P : Program) (s : TypeId) (f off : Nat) (agg : Bool) (n : Nat) : Bool :=
  match fldOf P s f with
  | some fl => Nat.beq fl.offset off && tyOK P fl.type agg n
  | none => false
theorem chkFld_eq {P : Program} {s : TypeId} {f off n : Nat} {agg : Bool} (h : chkFld P s f off agg n = true) : ∃ fl, fldOf P s f = some fl ∧ fl.offset = off ∧ tyOK P fl.type agg n = true := by
  unfold chkFld at h
  split at h
  · rename_i fl hfl
    simp only [Bool.and_eq_true] at h
    exact ⟨fl, hfl, beq_eq h.1, h.2⟩
  · cases h

def chkMkS (P : Program) (G : Gl) (t : TypeId) (parts : List (Nat × Operand)) (ps : List Pc) : Bool :=
  match P.underlying t, zeroCellsOf P t with
  | some (.struct fs), some zs => fs.toList.all (hasInfo P) && chkPcs G (placeS P fs.toList) 0 ps parts zs
  | _, _ => false
def chkMkA (P : Program) (G : Gl) (t : TypeId) (parts : List (Nat × Operand)) (ps : List Pc) : Bool :=
  match P.underlying t, zeroCellsOf P t with
  | some (.array _ el), some zs => (match P.info? el with
    | some i => chkPcs G (fun j => some (j * i.size, i.size)) 0 ps parts zs
    | none => false)
  | _, _ => false
def chkMkSl (P : Program) (G : Gl) (t : TypeId) (len : Nat) (parts : List (Nat × Operand)) (sz : Nat) (ps : List Pc) : Bool :=
  slE P t fun el => szIs P el sz && (match zeroCellsOf P el with
    | some zs => Nat.beq zs.length sz && Nat.beq ps.length len && Nat.ble (len * sz) 16777216 && chkPcs G (fun j => some (j * sz, sz)) 0 ps parts (repCells len zs)
    | none => false)

def chkI (P : Program) (G : Gl) (op : Op) : I → Bool
  | .mv x => match op with
    | .move y | .assign y => chkOpd G x y
    | _ => false
  | .mvf x => match op with
    | .move y | .assign y => chkOpd G x y
    | _ => false
  | .nsl _ => match op with
    | .move (.const (.slice none 0 0)) | .assign (.const (.slice none 0 0)) => true
    | _ => false
  | .pick c x y => match op with
    | .pick c' x' y' => chkOpd G c c' && chkOpd G x x' && chkOpd G y y'
    | _ => false
  | .alloc z _ => match op with
    | .alloc t => zeroOK P t z
    | _ => false
  | .box x _ => match op with
    | .box _ x' => chkOpd G x x'
    | _ => false
  | .mkS ps => match op with
    | .build t parts => chkMkS P G t parts.toList ps
    | _ => false
  | .mkA _ ps => match op with
    | .build t parts => chkMkA P G t parts.toList ps
    | _ => false
  | .mkSl sz ps => match op with
    | .buildSlice t len parts => chkMkSl P G t len parts.toList sz ps
    | _ => false
  | .mkSlF sz ps => match op with
    | .buildSlice t len parts => chkMkSl P G t len parts.toList sz ps
    | _ => false
  | .load agg n x => match op with
    | .load t x' => chkOpd G x x' && tyOK P t agg n
    | _ => false
  | .store n x y _ => match op with
    | .store t x' y' => chkOpd G x x' && chkOpd G y y' && szIs P t n
    | _ => false
  | .storeN n _ x => match op with
    | .store t x' (.const (.slice none 0 0)) => chkOpd G x x' && szIs P t n
    | _ => false
  | .nilck x => match op with
    | .nilCheck x' => chkOpd G x x'
    | _ => false
  | .arith b x y => match op with
    | .binOp b' _ x' y' _ => decide (b = b') && chkOpd G x x' && chkOpd G y y'
    | _ => false
  | .cmp b x y => match op with
    | .binOp b' _ x' y' _ => decide (b = b') && chkOpd G x x' && chkOpd G y y'
    | _ => false
  | .cmpb neg x y => match op with
    | .binOp b' t x' y' _ => decide (b' = if neg then .neq else .eql) && isBoolT P t && chkOpd G x x' && chkOpd G y y'
    | _ => false
  | .eqs neg sh x y => match op with
    | .binOp b' t x' y' _ => decide (b' = if neg then .neq else .eql) && (eqSh P 100 t sh || eqArr P t sh) && sh.isAgg && !P.eqGuardType P.depth t && chkOpd G x x' && chkOpd G y y'
    | _ => false
  | .isnil kd neg x => match op with
    | .binOp b' t x' y' _ => decide (b' = if neg then .neq else .eql) && nilT P t kd && ((chkOpd G x x' && nilOf kd y') || (chkOpd G x y' && nilOf kd x'))
    | _ => false
  | .un u x => match op with
    | .unOp u' _ x' => decide (u = u') && chkOpd G x x'
    | _ => false
  | .toInt j x => match op with
    | .convert s d x' => chkOpd G x x' && (P.underlying s).isSome && isInt P d j
    | _ => false
  | .b2s x => match op with
    | .convert s d x' => chkOpd G x x' && (slE P s fun el => isU8 P el) && isStr P d
    | _ => false
  | .s2b x => match op with
    | .convert s d x' => chkOpd G x x' && (slE P d fun el => isU8 P el) && isStr P s
    | _ => false
  | .mks x => match op with
    | .convert s d x' => chkOpd G x x' && Nat.beq s d && (slE P s fun el => isU8 P el)
    | _ => false
  | .mkfn f xs ys => match op with
    | .makeFunc (.func f') xs' ys' => Nat.beq f f' && chkOpds G xs xs'.toList && chkOpds G ys ys'.toList
    | _ => false
  | .mkmap => match op with
    | .makeMap _ none => true
    | _ => false
  | .mksl esz bytes z l c => match op with
    | .makeSlice t l' c' => chkOpd G l l' && chkOpd G c c' && (slE P t fun el => zeroOK P el z && szB P el esz bytes)
    | _ => false
  | .slice esz x lo hi mx => match op with
    | .slice t x' lo' hi' mx' => chkOpd G x x' && chkOO G lo lo' && chkOO G hi hi' && chkOO G mx mx' && (slE P t fun el => szIs P el esz)
    | _ => false
  | .sliceS x lo hi => match op with
    | .slice t x' lo' hi' none => chkOpd G x x' && chkOO G lo lo' && chkOO G hi hi' && isStr P t
    | _ => false
  | .sliceA n x lo hi mx => match op with
    | .slice t x' lo' hi' mx' => chkOpd G x x' && chkOO G lo lo' && chkOO G hi hi' && chkOO G mx mx' && (parE P t n fun el => szIs P el 1)
    | _ => false
  | .fa off f x => match op with
    | .fieldAddr s x' f' => Nat.beq f f' && chkOpd G x x' && chkFa P s f off
    | .indexAddr t x' (.const (.int _ m)) => chkOpd G x x' && chkFaC P t m off
    | _ => false
  | .fld agg off n f x => match op with
    | .field s x' f' => Nat.beq f f' && chkOpd G x x' && chkFld P s f off agg n
    | _ => false
  | .ia esz x i => match op with
    | .indexAddr t x' i' => chkOpd G x x' && chkOpd G i i' && (slE P t fun el => szIs P el esz)
    | _ => false
  | .iaA n x i => match op with
    | .indexAddr t x' i' => chkOpd G x x' && chkOpd G i i' && (arrE P t n fun el => szIs P el 1)
    | _ => false
  | .iaC n esz x i => match op with
    | .indexAddr t x' i' => chkOpd G x x' && chkOpd G i i' && (arrE P t n fun el => szIs P el esz)
    | _ => false
  | .ixA n x i => match op with
    | .index t x' i' => chkOpd G x x' && chkOpd G i i' && (arrE P t n fun el => tyOK P el false 1)
    | _ => false
  | .ixS x i => match op with
    | .index t x' i' => chkOpd G x x' && chkOpd G i i' && isStr P t
    | _ => false
  | .ext x i => match op with
    | .extract x' i' => chkOpd G x x' && Nat.beq i i'
    | _ => false
  | .call f _ xs => callV op fun f' xs' => chkOpd G (.fn f) f' && chkOpds G xs xs'
  | .callv x _ xs => callV op fun x' xs' => chkOpd G x x' && chkOpds G xs xs'
  | .lenL x => callB op fun b xs ts => match b, xs, ts with
    | .len, [x'], [t] => chkOpd G x x' && slE P t fun _ => true
    | _, _, _ => false
  | .lenS x => callB op fun b xs ts => match b, xs, ts with
    | .len, [x'], [t] => chkOpd G x x' && isStr P t
    | _, _, _ => false
  | .lenM x => callB op fun b xs ts => match b, xs, ts with
    | .len, [x'], [t] => chkOpd G x x' && (match P.underlying t with
      | some (.map _ _) => true
      | _ => false)
    | _, _, _ => false
  | .lenA n => callB op fun b xs ts => match b, xs, ts with
    | .len, [_], [t] => parE P t n fun _ => true
    | _, _, _ => false
  | .append _ esz bytes s x => callB op fun b xs ts => match b, xs, ts with
    | .append, [s', x'], [t, tx] => chkOpd G s s' && chkOpd G x x' && chkApp P t tx esz bytes
    | _, _, _ => false
  | .copy esz d s => callB op fun b xs ts => match b, xs, ts with
    | .copy, [d', s'], [t, _] => chkOpd G d d' && chkOpd G s s' && slE P t fun el => szIs P el esz
    | _, _, _ => false
  | .clear esz z x => callB op fun b xs ts => match b, xs, ts with
    | .clear, [x'], [t] => chkOpd G x x' && slE P t fun el => zeroOK P el z && szIs P el esz
    | _, _, _ => false
  | .mnmx mx xs => callB op fun b xs' _ => match mx, b with
    | true, .max => chkOpds G xs xs'
    | false, .min => chkOpds G xs xs'
    | _, _ => false
  | .lookup ok z sh x y => match op with
    | .lookup t x' y' ok' => (ok == ok') && chkOpd G x x' && chkOpd G y y' && mapT P t fun kt et => eqSh P 100 kt sh && zeroOK P et z
    | _ => false
  | .mapup sh x y v => match op with
    | .mapUpdate t x' y' v' => chkOpd G x x' && chkOpd G y y' && chkOpd G v v' && mapT P t fun kt _ => eqSh P 100 kt sh
    | .insert t x' y' v' => chkOpd G x x' && chkOpd G y y' && chkOpd G v v' && mapT P t fun kt _ => eqSh P 100 kt sh
    | _ => false
  | .del sh x y => callB op fun b xs ts => match b, xs, ts with
    | .delete, [x', y'], [t, _] => chkOpd G x x' && chkOpd G y y' && mapT P t fun kt _ => eqSh P 100 kt sh
    | _, _, _ => false
  | .eqp neg x y => match op with
    | .binOp op' t x' y' _ => decide (op' = if neg then .neq else .eql) && chkOpd G x x' && chkOpd G y y' && nilT P t .ptr
    | _ => false
  | .range x => match op with
    | .range t x' => chkOpd G x x' && mapT P t fun _ _ => true
    | _ => false
  | .next x => match op with
    | .next x' false => chkOpd G x x'
    | _ => false
  | .entry x => match op with
    | .entry x' => chkOpd G x x'
    | _ => false
  | .nslD _ => match op with
    | .move (.const (.slice none 0 0)) | .assign (.const (.slice none 0 0)) => true
    | _ => false
  | .mkSlD sz ps => match op with
    | .buildSlice t len parts => chkMkSl P G t len parts.toList sz ps
    | _ => false
  | .loadD agg n x => match op with
    | .load t x' => chkOpd G x x' && tyOK P t agg n
    | _ => false
  | .storeD n x y => match op with
    | .store t x' y' => chkOpd G x x' && chkOpd G y y' && szIs P t n
    | _ => false
  | .appD esz bytes s x => callB op fun b xs ts => match b, xs, ts with
    | .append, [s', x'], [t, tx] => chkOpd G s s' && chkOpd G x x' && chkApp P t tx esz bytes
    | _, _, _ => false

theorem chkI_sound {o : Oper} {i : I} (h : chkI X.P X.G o.op i = true) : OpW X o i := by
  unfold chkI at h
  split at h
  -- mv
  · split at h
    · rename_i y ho; exact (op_mv h (.inl rfl)).toS.toW ho
    · rename_i y ho; exact (op_mv h (.inr rfl)).toS.toW ho
    · cases h
  -- mvf
  · split at h
    · rename_i y ho; exact (op_mvf h (.inl rfl)).toW ho
    · rename_i y ho; exact (op_mvf h (.inr rfl)).toW ho
    · cases h
  -- nsl
  · split at h
    · rename_i ho; exact (op_nsl (.inl rfl)).toW ho
    · rename_i ho; exact (op_nsl (.inr rfl)).toW ho
    · cases h
  -- pick
  · split at h
    · rename_i ho
      simp only [Bool.and_eq_true] at h
      exact (op_pick h.1.1 h.1.2 h.2).toS.toW ho
    · cases h
  -- alloc
  · split at h
    · rename_i ho; exact (op_alloc h).toW ho
    · cases h
  -- box
  · split at h
    · rename_i ho; exact (op_box h).toW ho
    · cases h
  -- mkS
  · split at h
    · rename_i ho
      unfold chkMkS at h
      split at h
      · rename_i fs zs h1 h2
        simp only [Bool.and_eq_true] at h
        exact (op_mkS h1 h.1 h2 h.2).toS.toW ho
      · cases h
    · cases h
  -- mkA
  · split at h
    · rename_i ho
      unfold chkMkA at h
      split at h
      · rename_i m el zs h1 h2
        split at h
        · rename_i inf hinf
          exact (op_mkA h1 (sz := inf.size) (by rw [hinf]; rfl) h2 h).toS.toW ho
        · cases h
      · cases h
    · cases h
  -- mkSl
  · split at h
    · rename_i ho
      unfold chkMkSl at h
      obtain ⟨el, h1, h⟩ := slE_eq h
      simp only [Bool.and_eq_true] at h
      obtain ⟨h2, h⟩ := h
      split at h
      · rename_i zs hz
        simp only [Bool.and_eq_true] at h
        obtain ⟨⟨⟨h3, h4⟩, h5⟩, h6⟩ := h
        exact (op_mkSl h1 (szIs_eq h2) hz (beq_eq h3) (beq_eq h4) (Nat.le_of_ble_eq_true h5) h6).toW ho
      · cases h
    · cases h
  -- mkSlF
  · split at h
    · rename_i ho
      unfold chkMkSl at h
      obtain ⟨el, h1, h⟩ := slE_eq h
      simp only [Bool.and_eq_true] at h
      obtain ⟨h2, h⟩ := h
      split at h
      · rename_i zs hz
        simp only [Bool.and_eq_true] at h
        obtain ⟨⟨⟨h3, h4⟩, h5⟩, h6⟩ := h
        exact (op_mkSlF h1 (szIs_eq h2) hz (beq_eq h3) (beq_eq h4) (Nat.le_of_ble_eq_true h5) h6).toW ho
      · cases h
    · cases h
  -- load
  · split at h
    · rename_i ho
      simp only [Bool.and_eq_true] at h
      exact (op_load h.1 h.2).toS.toW ho
    · cases h
  -- store
  · split at h
    · rename_i ho
      simp only [Bool.and_eq_true] at h
      exact (op_store h.1.1 h.1.2 (szIs_eq h.2)).toW ho
    · cases h
  -- storeN
  · split at h
    · rename_i ho
      simp only [Bool.and_eq_true] at h
      exact (op_storeN h.1 (szIs_eq h.2)).toW ho
    · cases h
  -- nilck
  · split at h
    · rename_i ho; exact (op_nilck h).toS.toW ho
    · cases h
  -- arith
  · split at h
    · rename_i ho
      simp only [Bool.and_eq_true, decide_eq_true_eq] at h
      obtain ⟨⟨rfl, h2⟩, h3⟩ := h
      exact (op_arith h2 h3).toS.toW ho
    · cases h
  -- cmp
  · split at h
    · rename_i ho
      simp only [Bool.and_eq_true, decide_eq_true_eq] at h
      obtain ⟨⟨rfl, h2⟩, h3⟩ := h
      exact (op_cmp h2 h3).toS.toW ho
    · cases h
  -- cmpb
  · split at h
    · rename_i ho
      simp only [Bool.and_eq_true, decide_eq_true_eq] at h
      exact (op_cmpb h.1.2 h.2 h.1.1.1 (isBoolT_eq h.1.1.2)).toS.toW ho
    · cases h
  -- eqs
  · split at h
    · rename_i ho
      simp only [Bool.and_eq_true, decide_eq_true_eq, Bool.not_eq_true'] at h
      exact (op_eqs h.1.2 h.2 h.1.1.1.1.1 h.1.1.1.1.2 h.1.1.1.2 h.1.1.2).toS.toW ho
    · cases h
  -- isnil
  · split at h
    · rename_i ho
      simp only [Bool.and_eq_true, Bool.or_eq_true, decide_eq_true_eq] at h
      obtain ⟨⟨h1, h2⟩, h3⟩ := h
      obtain ⟨d, hd, hk⟩ := nilT_eq h2
      rcases h3 with h3 | h3
      · exact (op_isnil h3.1 h1 hd hk (.inl ⟨rfl, nilOf_eq h3.2⟩)).toS.toW ho
      · exact (op_isnil h3.1 h1 hd hk (.inr ⟨rfl, nilOf_eq h3.2⟩)).toS.toW ho
    · cases h
  -- un
  · split at h
    · rename_i ho
      simp only [Bool.and_eq_true, decide_eq_true_eq] at h
      obtain ⟨rfl, h2⟩ := h
      exact (op_un h2).toS.toW ho
    · cases h
  -- toInt
  · split at h
    · rename_i ho
      simp only [Bool.and_eq_true] at h
      exact (op_toInt h.1.1 h.1.2 (isInt_eq h.2)).toS.toW ho
    · cases h
  -- b2s
  · split at h
    · rename_i ho
      simp only [Bool.and_eq_true] at h
      obtain ⟨el, h1, h2⟩ := slE_eq h.1.2
      exact (op_b2s h.1.1 h1 (isStr_eq h.2) (isU8_eq h2)).toS.toW ho
    · cases h
  -- s2b
  · split at h
    · rename_i ho
      simp only [Bool.and_eq_true] at h
      obtain ⟨el, h1, h2⟩ := slE_eq h.1.2
      exact (op_s2b h.1.1 (isStr_eq h.2) h1 (isU8_eq h2)).toW ho
    · cases h
  -- mks
  · split at h
    · rename_i ho
      simp only [Bool.and_eq_true] at h
      obtain ⟨el, h1, h2⟩ := slE_eq h.2
      obtain rfl := Nat.eq_of_beq_eq_true h.1.2
      exact (op_mks h.1.1 h1 (isU8_eq h2)).toW ho
    · cases h
  -- mkfn
  · split at h
    · rename_i ho
      simp only [Bool.and_eq_true] at h
      have := beq_eq h.1.1
      subst this
      exact (op_mkfn h.1.2 h.2).toS.toW ho
    · cases h
  -- mkmap
  · split at h
    · rename_i ho; exact op_mkmap.toW ho
    · cases h
  -- mksl
  · split at h
    · rename_i ho
      simp only [Bool.and_eq_true] at h
      obtain ⟨el, h1, h2⟩ := slE_eq h.2
      simp only [Bool.and_eq_true] at h2
      exact (op_mksl h.1.1 h.1.2 h1 h2.1 (szB_eq h2.2)).toW ho
    · cases h
  -- slice
  · split at h
    · rename_i ho
      simp only [Bool.and_eq_true] at h
      obtain ⟨el, h1, h2⟩ := slE_eq h.2
      exact (op_slice h.1.1.1.1 h.1.1.1.2 h.1.1.2 h.1.2 h1 (szIs_eq h2)).toS.toW ho
    · cases h
  -- sliceS
  · split at h
    · rename_i ho
      simp only [Bool.and_eq_true] at h
      exact (op_sliceS h.1.1.1 h.1.1.2 h.1.2 (isStr_eq h.2)).toS.toW ho
    · cases h
  -- sliceA
  · split at h
    · rename_i ho
      simp only [Bool.and_eq_true] at h
      obtain ⟨el, h1, h2⟩ := parE_eq h.2
      exact (op_sliceA h.1.1.1.1 h.1.1.1.2 h.1.1.2 h.1.2 h1 (szIs_eq h2)).toS.toW ho
    · cases h
  -- fa
  · split at h
    · rename_i ho
      simp only [Bool.and_eq_true] at h
      have := beq_eq h.1.1
      subst this
      obtain ⟨fl, n, h1, h2, h3⟩ := chkFa_eq h.2
      exact (op_fa h.1.2 h1 h2 h3).toS.toW ho
    · rename_i ho
      simp only [Bool.and_eq_true] at h
      obtain ⟨el, n, esz, h1, h2, h3, h4, h5⟩ := chkFaC_eq h.2
      exact (op_faC h.1 h1 h2 h3 h4 h5).toS.toW ho
    · cases h
  -- fld
  · split at h
    · rename_i ho
      simp only [Bool.and_eq_true] at h
      have := beq_eq h.1.1
      subst this
      obtain ⟨fl, h1, h2, h3⟩ := chkFld_eq h.2
      exact (op_fld h.1.2 h1 h2 h3).toS.toW ho
    · cases h
  -- ia
  · split at h
    · rename_i ho
      simp only [Bool.and_eq_true] at h
      obtain ⟨el, h1, h2⟩ := slE_eq h.2
      exact (op_ia h.1.1 h.1.2 h1 (szIs_eq h2)).toS.toW ho
    · cases h
  -- iaA
  · split at h
    · rename_i ho
      simp only [Bool.and_eq_true] at h
      obtain ⟨el, h1, h2⟩ := arrE_eq h.2
      exact (op_iaA h.1.1 h.1.2 h1 (szIs_eq h2)).toS.toW ho
    · cases h
  -- iaC
  · split at h
    · rename_i ho
      simp only [Bool.and_eq_true] at h
      obtain ⟨el, h1, h2⟩ := arrE_eq h.2
      exact (op_iaC h.1.1 h.1.2 h1 (szIs_eq h2)).toS.toW ho
    · cases h
  -- ixA
  · split at h
    · rename_i ho
      simp only [Bool.and_eq_true] at h
      obtain ⟨el, h1, h2⟩ := arrE_eq h.2
      exact (op_ixA h.1.1 h.1.2 h1 h2).toS.toW ho
    · cases h
  -- ixS
  · split at h
    · rename_i ho
      simp only [Bool.and_eq_true] at h
      exact (op_ixS h.1.1 h.1.2 (isStr_eq h.2) rfl).toS.toW ho
    · cases h
  -- ext
  · split at h
    · rename_i ho
      simp only [Bool.and_eq_true] at h
      have := beq_eq h.2
      subst this
      exact (op_ext h.1).toS.toW ho
    · cases h
  -- call
  · obtain ⟨f', xs', ts, ho, h⟩ := callV_eq h
    simp only [Bool.and_eq_true] at h
    exact op_call h.1 h.2 ho
  -- callv
  · obtain ⟨x', xs', ts, ho, h⟩ := callV_eq h
    simp only [Bool.and_eq_true] at h
    exact op_callv h.1 h.2 ho
  -- lenL
  · obtain ⟨b, xs, ts, ho, h⟩ := callB_eq h
    split at h
    · rename_i h1 h2
      rw [arr_of h1, arr_of h2] at ho
      simp only [Bool.and_eq_true] at h
      obtain ⟨el, h3, _⟩ := slE_eq h.2
      exact (op_lenL h.1 h3).toS.toW ho
    · cases h
  -- lenS
  · obtain ⟨b, xs, ts, ho, h⟩ := callB_eq h
    split at h
    · rename_i h1 h2
      rw [arr_of h1, arr_of h2] at ho
      simp only [Bool.and_eq_true] at h
      exact (op_lenS h.1 (isStr_eq h.2)).toS.toW ho
    · cases h
  -- lenM
  · obtain ⟨b, xs, ts, ho, h⟩ := callB_eq h
    split at h
    · rename_i h1 h2
      rw [arr_of h1, arr_of h2] at ho
      simp only [Bool.and_eq_true] at h
      obtain ⟨h3, h4⟩ := h
      split at h4
      · rename_i q u hq; exact (op_lenM h3 hq).toS.toW ho
      · cases h4
    · cases h
  -- lenA
  · obtain ⟨b, xs, ts, ho, h⟩ := callB_eq h
    split at h
    · rename_i h1 h2
      rw [arr_of h1, arr_of h2] at ho
      obtain ⟨el, h3, _⟩ := parE_eq h
      exact (op_lenA h3).toS.toW ho
    · cases h
  -- append
  · obtain ⟨b, xs, ts, ho, h⟩ := callB_eq h
    split at h
    · rename_i h1 h2
      rw [arr_of h1, arr_of h2] at ho
      simp only [Bool.and_eq_true] at h
      exact (op_append h.1.1 h.1.2 h.2).toW ho
    · cases h
  -- copy
  · obtain ⟨b, xs, ts, ho, h⟩ := callB_eq h
    split at h
    · rename_i h1 h2
      rw [arr_of h1, arr_of h2] at ho
      simp only [Bool.and_eq_true] at h
      obtain ⟨el, h3, h4⟩ := slE_eq h.2
      exact (op_copy h.1.1 h.1.2 h3 (szIs_eq h4)).toW ho
    · cases h
  -- clear
  · obtain ⟨b, xs, ts, ho, h⟩ := callB_eq h
    split at h
    · rename_i h1 h2
      rw [arr_of h1, arr_of h2] at ho
      simp only [Bool.and_eq_true] at h
      obtain ⟨el, h3, h4⟩ := slE_eq h.2
      simp only [Bool.and_eq_true] at h4
      exact (op_clear h.1 h3 h4.1 (szIs_eq h4.2)).toW ho
    · cases h
  -- mnmx
  · obtain ⟨b, xs, ts, ho, h⟩ := callB_eq h
    split at h
    · exact (op_mnmx (mx := true) h).toS.toW ho
    · exact (op_mnmx (mx := false) h).toS.toW ho
    · cases h
  -- lookup
  · split at h
    · rename_i ho
      simp only [Bool.and_eq_true, beq_iff_eq] at h
      obtain ⟨⟨⟨h1, h2⟩, h3⟩, h4⟩ := h
      subst h1
      obtain ⟨kt, et, h5, h6⟩ := mapT_eq h4
      simp only [Bool.and_eq_true] at h6
      exact (op_lookup h2 h3 h5 h6.1 h6.2).toS.toW ho
    · cases h
  -- mapup
  · split at h
    · rename_i ho
      simp only [Bool.and_eq_true] at h
      obtain ⟨⟨⟨h1, h2⟩, h3⟩, h4⟩ := h
      obtain ⟨kt, et, h5, h6⟩ := mapT_eq h4
      exact (op_mapup h1 h2 h3 h5 h6 (.inl rfl)).toW ho
    · rename_i ho
      simp only [Bool.and_eq_true] at h
      obtain ⟨⟨⟨h1, h2⟩, h3⟩, h4⟩ := h
      obtain ⟨kt, et, h5, h6⟩ := mapT_eq h4
      exact (op_mapup h1 h2 h3 h5 h6 (.inr rfl)).toW ho
    · cases h
  -- del
  · obtain ⟨b, xs, ts, ho, h⟩ := callB_eq h
    split at h
    · rename_i h1 h2
      rw [arr_of h1, arr_of h2] at ho
      simp only [Bool.and_eq_true] at h
      obtain ⟨⟨h3, h4⟩, h5⟩ := h
      obtain ⟨kt, et, h6, h7⟩ := mapT_eq h5
      exact (op_del h3 h4 h6 h7).toW ho
    · cases h
  -- eqp
  · split at h
    · rename_i ho
      simp only [Bool.and_eq_true, decide_eq_true_eq] at h
      obtain ⟨⟨⟨h1, h2⟩, h3⟩, h4⟩ := h
      obtain ⟨d, hd, hk⟩ := nilT_eq h4
      cases d <;> simp [nkOK] at hk
      exact (op_eqp h2 h3 h1 hd).toS.toW ho
    · cases h
  -- range
  · split at h
    · rename_i ho
      simp only [Bool.and_eq_true] at h
      obtain ⟨kt, et, h1, _⟩ := mapT_eq h.2
      exact (op_range h.1 h1).toW ho
    · cases h
  -- next
  · split at h
    · rename_i ho; exact (op_next h).toW ho
    · cases h
  -- entry
  · split at h
    · rename_i ho; exact (op_entry h).toS.toW ho
    · cases h
  -- nslD
  · split at h
    · rename_i ho; exact (op_nslD (.inl rfl)).toW ho
    · rename_i ho; exact (op_nslD (.inr rfl)).toW ho
    · cases h
  -- mkSlD
  · split at h
    · rename_i ho
      unfold chkMkSl at h
      obtain ⟨el, h1, h⟩ := slE_eq h
      simp only [Bool.and_eq_true] at h
      obtain ⟨h2, h⟩ := h
      split at h
      · rename_i zs hz
        simp only [Bool.and_eq_true] at h
        obtain ⟨⟨⟨h3, h4⟩, h5⟩, h6⟩ := h
        exact (op_mkSlD h1 (szIs_eq h2) hz (beq_eq h3) (beq_eq h4) (Nat.le_of_ble_eq_true h5) h6).toW ho
      · cases h
    · cases h
  -- loadD
  · split at h
    · rename_i ho
      simp only [Bool.and_eq_true] at h
      exact (op_loadD h.1 h.2).toW ho
    · cases h
  -- storeD
  · split at h
    · rename_i ho
      simp only [Bool.and_eq_true] at h
      exact (op_storeD h.1.1 h.1.2 (szIs_eq h.2)).toW ho
    · cases h
  -- appD
  · obtain ⟨b, xs, ts, ho, h⟩ := callB_eq h
    split at h
    · rename_i h1 h2
      rw [arr_of h1, arr_of h2] at ho
      simp only [Bool.and_eq_true] at h
      exact (op_appD h.1.1 h.1.2 h.2).toW ho
    · cases h
def I.ro : I → Bool
  | .mv _ | .pick _ _ _ | .mkS _ | .mkA _ _ | .load _ _ _ | .nilck _ | .arith _ _ _ | .cmp _ _ _ | .cmpb _ _ _ | .eqs _ _ _ _ | .isnil _ _ _ | .un _ _ | .toInt _ _ | .b2s _ | .mkfn _ _ _ | .slice _ _ _ _ _ | .sliceS _ _ _ | .sliceA _ _ _ _ _
  | .fa _ _ _ | .fld _ _ _ _ _ | .ia _ _ _ | .iaA _ _ _ | .iaC _ _ _ _ | .ixA _ _ _ | .ixS _ _ | .ext _ _ | .lenL _ | .lenS _ | .lenM _ | .lenA _ | .mnmx _ _ | .lookup _ _ _ _ _ => true
  | _ => false

theorem chkI0 {o : Oper} {i : I} (hro : i.ro = true) (h : chkI X.P X.G o.op i = true) : OpS0 X o.op i := by
  unfold chkI at h
  split at h
  -- mv
  · split at h
    · rename_i y ho; rw [ho]; exact (op_mv h (.inl rfl))
    · rename_i y ho; rw [ho]; exact (op_mv h (.inr rfl))
    · cases h
  -- mvf
  · split at h
    · rename_i ho; cases hro
    · rename_i ho; cases hro
    · cases h
  -- nsl
  · split at h
    · rename_i ho; cases hro
    · rename_i ho; cases hro
    · cases h
  -- pick
  · split at h
    · rename_i ho
      simp only [Bool.and_eq_true] at h
      rw [ho]; exact (op_pick h.1.1 h.1.2 h.2)
    · cases h
  -- alloc
  · split at h
    · rename_i ho; cases hro
    · cases h
  -- box
  · split at h
    · rename_i ho; cases hro
    · cases h
  -- mkS
  · split at h
    · rename_i ho
      unfold chkMkS at h
      split at h
      · rename_i fs zs h1 h2
        simp only [Bool.and_eq_true] at h
        rw [ho]; exact (op_mkS h1 h.1 h2 h.2)
      · cases h
    · cases h
  -- mkA
  · split at h
    · rename_i ho
      unfold chkMkA at h
      split at h
      · rename_i m el zs h1 h2
        split at h
        · rename_i inf hinf
          rw [ho]; exact (op_mkA h1 (sz := inf.size) (by rw [hinf]; rfl) h2 h)
        · cases h
      · cases h
    · cases h
  -- mkSl
  · split at h
    · rename_i ho
      unfold chkMkSl at h
      obtain ⟨el, h1, h⟩ := slE_eq h
      simp only [Bool.and_eq_true] at h
      obtain ⟨h2, h⟩ := h
      split at h
      · rename_i zs hz
        simp only [Bool.and_eq_true] at h
        obtain ⟨⟨⟨h3, h4⟩, h5⟩, h6⟩ := h
        cases hro
      · cases h
    · cases h
  -- mkSlF
  · split at h
    · rename_i ho
      unfold chkMkSl at h
      obtain ⟨el, h1, h⟩ := slE_eq h
      simp only [Bool.and_eq_true] at h
      obtain ⟨h2, h⟩ := h
      split at h
      · rename_i zs hz
        simp only [Bool.and_eq_true] at h
        obtain ⟨⟨⟨h3, h4⟩, h5⟩, h6⟩ := h
        cases hro
      · cases h
    · cases h
  -- load
  · split at h
    · rename_i ho
      simp only [Bool.and_eq_true] at h
      rw [ho]; exact (op_load h.1 h.2)
    · cases h
  -- store
  · split at h
    · rename_i ho
      simp only [Bool.and_eq_true] at h
      cases hro
    · cases h
  -- storeN
  · split at h
    · rename_i ho
      cases hro
    · cases h
  -- nilck
  · split at h
    · rename_i ho; rw [ho]; exact (op_nilck h)
    · cases h
  -- arith
  · split at h
    · rename_i ho
      simp only [Bool.and_eq_true, decide_eq_true_eq] at h
      obtain ⟨⟨rfl, h2⟩, h3⟩ := h
      rw [ho]; exact (op_arith h2 h3)
    · cases h
  -- cmp
  · split at h
    · rename_i ho
      simp only [Bool.and_eq_true, decide_eq_true_eq] at h
      obtain ⟨⟨rfl, h2⟩, h3⟩ := h
      rw [ho]; exact (op_cmp h2 h3)
    · cases h
  -- cmpb
  · split at h
    · rename_i ho
      simp only [Bool.and_eq_true, decide_eq_true_eq] at h
      rw [ho]; exact (op_cmpb h.1.2 h.2 h.1.1.1 (isBoolT_eq h.1.1.2))
    · cases h
  -- eqs
  · split at h
    · rename_i ho
      simp only [Bool.and_eq_true, decide_eq_true_eq, Bool.not_eq_true'] at h
      rw [ho]; exact (op_eqs h.1.2 h.2 h.1.1.1.1.1 h.1.1.1.1.2 h.1.1.1.2 h.1.1.2)
    · cases h
  -- isnil
  · split at h
    · rename_i ho
      simp only [Bool.and_eq_true, Bool.or_eq_true, decide_eq_true_eq] at h
      obtain ⟨⟨h1, h2⟩, h3⟩ := h
      obtain ⟨d, hd, hk⟩ := nilT_eq h2
      rcases h3 with h3 | h3
      · rw [ho]; exact (op_isnil h3.1 h1 hd hk (.inl ⟨rfl, nilOf_eq h3.2⟩))
      · rw [ho]; exact (op_isnil h3.1 h1 hd hk (.inr ⟨rfl, nilOf_eq h3.2⟩))
    · cases h
  -- un
  · split at h
    · rename_i ho
      simp only [Bool.and_eq_true, decide_eq_true_eq] at h
      obtain ⟨rfl, h2⟩ := h
      rw [ho]; exact (op_un h2)
    · cases h
  -- toInt
  · split at h
    · rename_i ho
      simp only [Bool.and_eq_true] at h
      rw [ho]; exact (op_toInt h.1.1 h.1.2 (isInt_eq h.2))
    · cases h
  -- b2s
  · split at h
    · rename_i ho
      simp only [Bool.and_eq_true] at h
      obtain ⟨el, h1, h2⟩ := slE_eq h.1.2
      rw [ho]; exact (op_b2s h.1.1 h1 (isStr_eq h.2) (isU8_eq h2))
    · cases h
  -- s2b
  · split at h
    · rename_i ho
      simp only [Bool.and_eq_true] at h
      obtain ⟨el, h1, h2⟩ := slE_eq h.1.2
      cases hro
    · cases h
  -- mks
  · cases hro
  -- mkfn
  · split at h
    · rename_i ho
      simp only [Bool.and_eq_true] at h
      have := beq_eq h.1.1
      subst this
      rw [ho]; exact (op_mkfn h.1.2 h.2)
    · cases h
  -- mkmap
  · split at h
    · rename_i ho; cases hro
    · cases h
  -- mksl
  · split at h
    · rename_i ho
      simp only [Bool.and_eq_true] at h
      obtain ⟨el, h1, h2⟩ := slE_eq h.2
      simp only [Bool.and_eq_true] at h2
      cases hro
    · cases h
  -- slice
  · split at h
    · rename_i ho
      simp only [Bool.and_eq_true] at h
      obtain ⟨el, h1, h2⟩ := slE_eq h.2
      rw [ho]; exact (op_slice h.1.1.1.1 h.1.1.1.2 h.1.1.2 h.1.2 h1 (szIs_eq h2))
    · cases h
  -- sliceS
  · split at h
    · rename_i ho
      simp only [Bool.and_eq_true] at h
      rw [ho]; exact (op_sliceS h.1.1.1 h.1.1.2 h.1.2 (isStr_eq h.2))
    · cases h
  -- sliceA
  · split at h
    · rename_i ho
      simp only [Bool.and_eq_true] at h
      obtain ⟨el, h1, h2⟩ := parE_eq h.2
      rw [ho]; exact (op_sliceA h.1.1.1.1 h.1.1.1.2 h.1.1.2 h.1.2 h1 (szIs_eq h2))
    · cases h
  -- fa
  · split at h
    · rename_i ho
      simp only [Bool.and_eq_true] at h
      have := beq_eq h.1.1
      subst this
      obtain ⟨fl, n, h1, h2, h3⟩ := chkFa_eq h.2
      rw [ho]; exact (op_fa h.1.2 h1 h2 h3)
    · rename_i ho
      simp only [Bool.and_eq_true] at h
      obtain ⟨el, n, esz, h1, h2, h3, h4, h5⟩ := chkFaC_eq h.2
      rw [ho]; exact (op_faC h.1 h1 h2 h3 h4 h5)
    · cases h
  -- fld
  · split at h
    · rename_i ho
      simp only [Bool.and_eq_true] at h
      have := beq_eq h.1.1
      subst this
      obtain ⟨fl, h1, h2, h3⟩ := chkFld_eq h.2
      rw [ho]; exact (op_fld h.1.2 h1 h2 h3)
    · cases h
  -- ia
  · split at h
    · rename_i ho
      simp only [Bool.and_eq_true] at h
      obtain ⟨el, h1, h2⟩ := slE_eq h.2
      rw [ho]; exact (op_ia h.1.1 h.1.2 h1 (szIs_eq h2))
    · cases h
  -- iaA
  · split at h
    · rename_i ho
      simp only [Bool.and_eq_true] at h
      obtain ⟨el, h1, h2⟩ := arrE_eq h.2
      rw [ho]; exact (op_iaA h.1.1 h.1.2 h1 (szIs_eq h2))
    · cases h
  -- iaC
  · split at h
    · rename_i ho
      simp only [Bool.and_eq_true] at h
      obtain ⟨el, h1, h2⟩ := arrE_eq h.2
      rw [ho]; exact (op_iaC h.1.1 h.1.2 h1 (szIs_eq h2))
    · cases h
  -- ixA
  · split at h
    · rename_i ho
      simp only [Bool.and_eq_true] at h
      obtain ⟨el, h1, h2⟩ := arrE_eq h.2
      rw [ho]; exact (op_ixA h.1.1 h.1.2 h1 h2)
    · cases h
  -- ixS
  · split at h
    · rename_i ho
      simp only [Bool.and_eq_true] at h
      rw [ho]; exact (op_ixS h.1.1 h.1.2 (isStr_eq h.2) rfl)
    · cases h
  -- ext
  · split at h
    · rename_i ho
      simp only [Bool.and_eq_true] at h
      have := beq_eq h.2
      subst this
      rw [ho]; exact (op_ext h.1)
    · cases h
  -- call
  · obtain ⟨f', xs', ts, ho, h⟩ := callV_eq h
    simp only [Bool.and_eq_true] at h
    cases hro
  -- callv
  · obtain ⟨x', xs', ts, ho, h⟩ := callV_eq h
    simp only [Bool.and_eq_true] at h
    cases hro
  -- lenL
  · obtain ⟨b, xs, ts, ho, h⟩ := callB_eq h
    split at h
    · rename_i h1 h2
      rw [arr_of h1, arr_of h2] at ho
      simp only [Bool.and_eq_true] at h
      obtain ⟨el, h3, _⟩ := slE_eq h.2
      rw [ho]; exact (op_lenL h.1 h3)
    · cases h
  -- lenS
  · obtain ⟨b, xs, ts, ho, h⟩ := callB_eq h
    split at h
    · rename_i h1 h2
      rw [arr_of h1, arr_of h2] at ho
      simp only [Bool.and_eq_true] at h
      rw [ho]; exact (op_lenS h.1 (isStr_eq h.2))
    · cases h
  -- lenM
  · obtain ⟨b, xs, ts, ho, h⟩ := callB_eq h
    split at h
    · rename_i h1 h2
      rw [arr_of h1, arr_of h2] at ho
      simp only [Bool.and_eq_true] at h
      obtain ⟨h3, h4⟩ := h
      split at h4
      · rename_i q u hq; rw [ho]; exact (op_lenM h3 hq)
      · cases h4
    · cases h
  -- lenA
  · obtain ⟨b, xs, ts, ho, h⟩ := callB_eq h
    split at h
    · rename_i h1 h2
      rw [arr_of h1, arr_of h2] at ho
      obtain ⟨el, h3, _⟩ := parE_eq h
      rw [ho]; exact (op_lenA h3)
    · cases h
  -- append
  · obtain ⟨b, xs, ts, ho, h⟩ := callB_eq h
    split at h
    · rename_i h1 h2
      rw [arr_of h1, arr_of h2] at ho
      simp only [Bool.and_eq_true] at h
      cases hro
    · cases h
  -- copy
  · obtain ⟨b, xs, ts, ho, h⟩ := callB_eq h
    split at h
    · rename_i h1 h2
      rw [arr_of h1, arr_of h2] at ho
      simp only [Bool.and_eq_true] at h
      obtain ⟨el, h3, h4⟩ := slE_eq h.2
      cases hro
    · cases h
  -- clear
  · obtain ⟨b, xs, ts, ho, h⟩ := callB_eq h
    split at h
    · rename_i h1 h2
      rw [arr_of h1, arr_of h2] at ho
      simp only [Bool.and_eq_true] at h
      obtain ⟨el, h3, h4⟩ := slE_eq h.2
      simp only [Bool.and_eq_true] at h4
      cases hro
    · cases h
  -- mnmx
  · obtain ⟨b, xs, ts, ho, h⟩ := callB_eq h
    split at h
    · rw [ho]; exact (op_mnmx (mx := true) h)
    · rw [ho]; exact (op_mnmx (mx := false) h)
    · cases h
  -- lookup
  · split at h
    · rename_i ho
      simp only [Bool.and_eq_true, beq_iff_eq] at h
      obtain ⟨⟨⟨h1, h2⟩, h3⟩, h4⟩ := h
      subst h1
      obtain ⟨kt, et, h5, h6⟩ := mapT_eq h4
      simp only [Bool.and_eq_true] at h6
      rw [ho]; exact (op_lookup h2 h3 h5 h6.1 h6.2)
    · cases h
  -- mapup
  · split at h
    · cases hro
    · cases hro
    · cases h
  -- del
  · obtain ⟨b, xs, ts, ho, h⟩ := callB_eq h
    split at h
    · cases hro
    · cases h
  all_goals cases hro
end Stk
end

section
/- The framework, part 16: regions and code. -/
namespace Stk
open Go
variable {X : Cx} {Q : Ex → Fr → Hp → Prop} {e : Env} {H : Hp} {w : World}

theorem FrR.none {fr : Fr} {a : Act} {e' : Env} (h : FrR X.N e fr a) (ht : Env.To id e e') (c : Value) : FrR X.N e' fr (a.put .none c) := h.to ht

theorem Fr.at_cons (d : Nat) (v : AV) (fr : Fr) (t : Nat) : Fr.at ((d, v) :: fr) t = if d = t then v else fr.at t := by
  simp only [Fr.at]
  by_cases h : d = t
  · subst h; rw [if_pos rfl, Nat.beq_refl]
  · rw [if_neg h]
    have : Nat.beq d t = false := by
      cases hb : Nat.beq d t with
      | true => exact absurd (beq_eq hb) h
      | false => rfl
    rw [this]

theorem FrR.put {fr : Fr} {a : Act} {e' : Env} (h : FrR X.N e fr a) (ht : Env.To id e e') {dst : Option Nat} (hd : ∀ d, dst = some d → d < X.N) {v : AV} {c : Value} (hv : AV.val e' v c) : FrR X.N e' (put dst v fr) (a.put dst c) := by
  cases dst with
  | none => exact h.to ht
  | some d =>
    have hd := hd d rfl
    refine ⟨by simp [Act.put, h.size], h.defers, fun t => ?_⟩
    simp only [Stk.put, Fr.at_cons, Act.put]
    by_cases hdt : d = t
    · subst hdt
      rw [if_pos rfl]
      have : (a.tmps.setIfInBounds d c).getD d undef = c := by
        simp [Array.getD_eq_getD_getElem?, h.size, hd]
      rw [this]; exact hv
    · rw [if_neg hdt]
      have : (a.tmps.setIfInBounds d c).getD t undef = a.tmps.getD t undef := by
        simp [Array.getD_eq_getD_getElem?, Array.getElem?_setIfInBounds_ne hdt]
      rw [this]; exact AV.val_to ht (h.slot t)

/-- A slot is known better. -/
theorem FrR.know {fr : Fr} {a : Act} (h : FrR X.N e fr a) {g : Nat} {v : AV} (hv : AV.val e v (a.tmps.getD g undef)) : FrR X.N e ((g, v) :: fr) a :=
  ⟨h.size, h.defers, fun t => by
    rw [Fr.at_cons]
    by_cases hg : g = t
    · subst hg; rw [if_pos rfl]; exact hv
    · rw [if_neg hg]; exact h.slot t⟩

def optLt (N : Nat) : Option Nat → Bool
  | none => true
  | some d => Nat.blt d N
theorem optLt_eq {N : Nat} {d : Option Nat} (h : optLt N d = true) : ∀ x, d = some x → x < N := by
  intro x hx; subst hx; exact Nat.le_of_ble_eq_true h
def optEq : Option Nat → Option Nat → Bool
  | none, none => true
  | some a, some b => Nat.beq a b
  | _, _ => false
theorem optEq_eq {a b : Option Nat} (h : optEq a b = true) : a = b := by
  unfold optEq at h
  split at h
  · rfl
  · rw [beq_eq h]
  · cases h
def beqB : Bool → Bool → Bool
  | true, true => true
  | false, false => true
  | _, _ => false
theorem beqB_eq {a b : Bool} (h : beqB a b = true) : a = b := by cases a <;> cases b <;> first | rfl | cases h

def chkGuard (ops : Array Oper) : Option (Nat × Bool) → Option (Nat × Bool) → Bool
  | none, none => true
  | some (j, want), some (g, want') => beqB want want' && (match ops[j]? with
    | some oj => optEq oj.dst (some g)
    | none => false)
  | _, _ => false
def chkIop (P : Program) (G : Gl) (N : Nat) (ops : Array Oper) (o : Oper) (io : IOp) : Bool :=
  optEq o.dst io.dst && optLt N o.dst && chkGuard ops o.guard io.guard && chkI P G o.op io.op
def chkOpsL (P : Program) (G : Gl) (N : Nat) (ops : Array Oper) : List Oper → List IOp → Bool
  | [], [] => true
  | o :: os, i :: is => chkIop P G N ops o i && chkOpsL P G N ops os is
  | _, _ => false

theorem val_bool' {b : Bool} {c : Value} (h : AV.val e (.t (.bool b)) c) : c = .bool b := by
  simp only [AV.val, Tr.isAgg, Tr.rel] at h
  simpa using h
theorem mk_bool' (e : Env) (b : Bool) : AV.val e (.t (.bool b)) (.bool b) := by
  simp [AV.val, Tr.isAgg, Tr.rel]

theorem yielded_of {ops : Array Oper} {a : Act} {j g : Nat} {oj : Oper} {b : Bool} (hj : ops[j]? = some oj) (hd : oj.dst = some g) (hv : a.tmps.getD g undef = .bool b) : yielded ops a.tmps j = some b := by
  unfold yielded
  rw [hj]
  simp only [Option.bind_some, hd]
  have : a.tmps[g]? = some (.bool b) := by
    rw [Array.getD_eq_getD_getElem?] at hv
    cases hg : a.tmps[g]? with
    | none => rw [hg] at hv; simp [undef] at hv
    | some x => rw [hg] at hv; simp at hv; rw [hv]
  rw [this]

theorem val_none {c : Value} (h : AV.val e (.tup []) c) : c = undef := by
  simp only [AV.val] at h
  obtain ⟨vs, rfl, h⟩ := h
  simp only [AV.vals] at h
  have : vs = #[] := by simpa using h
  rw [this]; rfl
theorem mk_none (e : Env) : AV.val e (.tup []) undef := by
  simp only [AV.val]; exact ⟨#[], rfl, by simp [AV.vals]⟩
theorem yielded_none {ops : Array Oper} {a : Act} {j g : Nat} {oj : Oper} (hj : ops[j]? = some oj) (hd : oj.dst = some g) (hv : a.tmps.getD g undef = undef) : yielded ops a.tmps j = none := by
  unfold yielded
  rw [hj]
  simp only [Option.bind_some, hd]
  cases hg : a.tmps[g]? with
  | none => rfl
  | some x =>
    rw [Array.getD_eq_getD_getElem?, hg] at hv
    simp only [Option.getD_some] at hv
    subst hv; rfl

/-- One compact operation: is it wanted? -/
theorem iop_cases {ops : Array Oper} {o : Oper} {io : IOp} (h3 : chkGuard ops o.guard io.guard = true) {fr : Fr} {a : Act} (hf : FrR X.N e fr a) {k : Fr → Hp → T} (h : sat X Q (iopT io fr H k)) :
    (Region.wanted o (yielded ops a.tmps) = true ∧ ∃ fr', FrR X.N e fr' a ∧ sat X Q (opT fr H io.op fun v H' => k (put io.dst v fr') H')) ∨
    (Region.wanted o (yielded ops a.tmps) = false ∧ ∃ fr', FrR X.N e fr' a ∧ sat X Q (k (put io.dst (.tup []) fr') H)) := by
  unfold iopT at h
  unfold chkGuard at h3
  split at h3
  · rename_i hg1 hg2
    simp only [hg2] at h
    exact .inl ⟨by simp [Region.wanted, hg1], fr, hf, h⟩
  · rename_i j want g want' hg1 hg2
    simp only [hg2, lk_eq] at h
    simp only [Bool.and_eq_true] at h3
    obtain ⟨h5, h6⟩ := h3
    have := beqB_eq h5
    subst this
    split at h6
    · rename_i oj hoj
      have hdst := optEq_eq h6
      split at h
      · rename_i b hb
        have hval := hf.slot g
        rw [hb] at hval
        have hcv := val_bool' hval
        have hy : yielded ops a.tmps j = some b := yielded_of hoj hdst hcv
        have hw : Region.wanted o (yielded ops a.tmps) = (some b == some want) := by simp [Region.wanted, hg1, hy]
        rw [hw]
        have know : ∀ b', b = b' → FrR X.N e ((g, .t (.bool b')) :: fr) a := fun b' hb' => hf.know (by rw [hcv, hb']; exact mk_bool' _ _)
        cases want with
        | true =>
          simp only at h
          cases b with
          | true => exact .inl ⟨rfl, _, know true rfl, h.1 rfl⟩
          | false => exact .inr ⟨rfl, _, know false rfl, h.2 rfl⟩
        | false =>
          simp only at h
          cases b with
          | true => exact .inr ⟨rfl, _, know true rfl, h.1 rfl⟩
          | false => exact .inl ⟨rfl, _, know false rfl, h.2 rfl⟩
      · rename_i hb
        have hval := hf.slot g
        rw [hb] at hval
        exact .inr ⟨by simp [Region.wanted, hg1, yielded_none hoj hdst (val_none hval)], fr, hf, h⟩
      · exact h.elim
    · cases h6
  · cases h3

/-- One compact operation: what it gives. -/
theorem iop_upon {ops : Array Oper} {o : Oper} {io : IOp} (hc : chkIop X.P X.G X.N ops o io = true) {fr : Fr} {a : Act} (hr : Rel X.G e H w) (hf : FrR X.N e fr a) {k : Fr → Hp → T} (h : sat X Q (iopT io fr H k)) :
    (Region.wanted o (yielded ops a.tmps) = true ∧ Upon X.P ((execOp a.eval o).run X.P w) fun c w' => ∃ fr' e' H', FrR X.N e' fr' (a.put o.dst c) ∧ Step X.G e H w e' H' w' ∧ sat X Q (k fr' H')) ∨
    (Region.wanted o (yielded ops a.tmps) = false ∧ ∃ fr', FrR X.N e fr' (a.put o.dst undef) ∧ sat X Q (k fr' H)) := by
  simp only [chkIop, Bool.and_eq_true] at hc
  obtain ⟨⟨⟨h1, h2⟩, h3⟩, h4⟩ := hc
  have h1 := optEq_eq h1
  have h2 := optLt_eq h2
  have hop := chkI_sound h4
  rcases iop_cases h3 hf h with ⟨hw, fr', hf', hk⟩ | ⟨hw, fr', hf', hk⟩
  · refine .inl ⟨hw, (hop e H w fr a Q _ hr hf hk).mono ?_⟩
    rintro c w' ⟨v, e', H', hv, hst, hk⟩
    rw [← h1] at hk
    exact ⟨_, e', H', hf'.put (hst.to hr) h2 hv, hst, hk⟩
  · rw [← h1] at hk
    exact .inr ⟨hw, _, hf'.put (Step.to (Step.refl hr) hr) h2 (mk_none _), hk⟩

theorem iop_sound {ops : Array Oper} {o : Oper} {io : IOp} (hc : chkIop X.P X.G X.N ops o io = true) {fr : Fr} {a : Act} (hr : Rel X.G e H w) (hf : FrR X.N e fr a) {k : Fr → Hp → T} (h : sat X Q (iopT io fr H k)) {next : Act → World → Prop} {Qe : Exit → Act → World → Prop}
    (hn : ∀ fr' a' e' H' w', FrR X.N e' fr' a' → Step X.G e H w e' H' w' → sat X Q (k fr' H') → next a' w') :
    if Region.wanted o (yielded ops a.tmps) then o.wp X.P a w next Qe else next (a.put o.dst undef) w := by
  rcases iop_upon hc hr hf h with ⟨h1, h2⟩ | ⟨h1, fr', h2, h3⟩
  · rw [if_pos h1]
    exact h2.wp fun c w' ⟨fr', e', H', g1, g2, g3⟩ => hn fr' _ e' H' w' g1 g2 g3
  · rw [if_neg (by rw [h1]; simp)]
    exact hn fr' _ e H w h2 (Step.refl hr) h3

theorem ops_sound {ops : Array Oper} {Qe : Exit → Act → World → Prop} : ∀ {os : List Oper} {is : List IOp} {i : Nat}, chkOpsL X.P X.G X.N ops os is = true → (∀ j o, os[j]? = some o → ops[i + j]? = some o) →
    ∀ {e : Env} {H : Hp} {w : World} {fr : Fr} {a : Act} {k : Fr → Hp → T}, Rel X.G e H w → FrR X.N e fr a → sat X Q (opsT is fr H k) →
    (∀ fr' a' e' H' w', FrR X.N e' fr' a' → Step X.G e H w e' H' w' → sat X Q (k fr' H') → Qe .normal a' w') → wpOps X.P ops Qe (List.range' i os.length) a w
  | [], is, i, hc, hget, e, H, w, fr, a, k, hr, hf, h, hn => by
    cases is with
    | nil => exact hn fr a e H w hf (Step.refl hr) h
    | cons _ _ => simp [chkOpsL] at hc
  | o :: os, [], i, hc, hget, e, H, w, fr, a, k, hr, hf, h, hn => by simp [chkOpsL] at hc
  | o :: os, io :: is, i, hc, hget, e, H, w, fr, a, k, hr, hf, h, hn => by
    simp only [chkOpsL, Bool.and_eq_true] at hc
    simp only [opsT] at h
    have ho : ops[i]? = some o := by simpa using hget 0 o rfl
    rw [List.length_cons, List.range'_succ]
    simp only [wpOps, ho]
    have key := iop_sound (next := wpOps X.P ops Qe (List.range' (i + 1) os.length)) (Qe := Qe) hc.1 hr hf h (by
      intro fr' a' e' H' w' hf' hst hk
      refine ops_sound hc.2 (fun j o' hj => ?_) hst.rel hf' hk ?_
      · have := hget (j + 1) o' (by simpa using hj)
        rw [show i + 1 + j = i + (j + 1) by omega]; exact this
      · intro fr2 a2 e2 H2 w2 hf2 hst2 hk2
        exact hn fr2 a2 e2 H2 w2 hf2 (hst.trans hst2) hk2)
    by_cases hw : Region.wanted o (yielded ops a.tmps) = true
    · rw [if_pos hw] at key ⊢; exact .inl key
    · rw [if_neg hw] at key ⊢; exact key

/-- A region taken in the text's order. -/
def chkReg (P : Program) (G : Gl) (N : Nat) (dr : Nat → Array Oper → List IOp → Bool) (draw : Bool) (ops : Array Oper) (is : List IOp) : Bool :=
  match draw with
  | false => chkOpsL P G N ops ops.toList is
  | true => dr N ops is

theorem region_sound {id : Nat} {ops : Array Oper} {is : List IOp} (hc : chkOpsL X.P X.G X.N ops ops.toList is = true) {fr : Fr} {a : Act} {k : Fr → Hp → T} (hr : Rel X.G e H w) (hf : FrR X.N e fr a) (h : sat X Q (opsT is fr H k))
    {Qe : Exit → Act → World → Prop} (hn : ∀ fr' a' e' H' w', FrR X.N e' fr' a' → Step X.G e H w e' H' w' → sat X Q (k fr' H') → Qe .normal a' w') : (Code.region id ops false).wp X.P Qe a w := by
  refine wp_region ?_
  have := ops_sound (i := 0) hc (fun j o hj => by simpa using hj) hr hf h hn
  rw [List.range_eq_range']
  simpa using this
end Stk
end

section
/- The framework: drawn regions. -/
namespace Stk
open Go
variable {X : Cx} {Q : Ex → Fr → Hp → Prop} {e : Env} {H : Hp} {w : World}

def preOf (ds : List IOp) (i : Nat) : List Nat :=
  match ds[i]? with
  | some d => d.pre
  | none => []
def bindE (e : Edge) : Bool := Region.binds .any e
/-- Does nobody but who must write slot t, that number i looks at? -/
def okLook (i : Nat) (d : IOp) (t : Nat) : Nat → List IOp → Bool
  | _, [] => true
  | k, x :: xs => (!(optEq x.dst (some t)) || nameIn k d.pre || (x.eff && (Nat.beq k i || nameIn i x.pre))) && okLook i d t (k + 1) xs
def okDst (i : Nat) (d : IOp) : Nat → List IOp → Bool
  | _, [] => true
  | k, x :: xs => (Nat.beq k i || d.dst.isNone || !(optEq x.dst d.dst)) && okDst i d (k + 1) xs
def chkD1 (P : Program) (G : Gl) (N : Nat) (ops : Array Oper) (ds : List IOp) (i : Nat) (o : Oper) (d : IOp) : Bool :=
  chkIop P G N ops o d && o.after.toList.all (fun e => !(bindE e) || Nat.blt e.on i) &&
  d.pre.all (fun x => Nat.blt x i && o.after.toList.any fun e => bindE e && (Nat.beq e.on x || nameIn x (preOf ds e.on))) &&
  (o.looksAt ops).all (fun t => okLook i d t 0 ds) && okDst i d 0 ds && (d.eff || d.op.ro)
def chkDs (P : Program) (G : Gl) (N : Nat) (ops : Array Oper) (ds : List IOp) : Nat → List Oper → List IOp → Bool
  | _, [], [] => true
  | i, o :: os, d :: r => chkD1 P G N ops ds i o d && chkDs P G N ops ds (i + 1) os r
  | _, _, _ => false
def chkD (P : Program) (G : Gl) (N : Nat) (ops : Array Oper) (ds : List IOp) : Bool := P.follows .mixedOrders && chkDs P G N ops ds 0 ops.toList ds

/-! ### What the checker says -/
structure D1 (X : Cx) (ops : Array Oper) (ds : List IOp) (i : Nat) (o : Oper) (d : IOp) : Prop where
  iop : chkIop X.P X.G X.N ops o d = true
  back : ∀ x ∈ o.after.toList, bindE x = true → x.on < i
  pre : ∀ x ∈ d.pre, x < i ∧ ∃ e ∈ o.after.toList, bindE e = true ∧ (e.on = x ∨ x ∈ preOf ds e.on)
  look : ∀ t ∈ o.looksAt ops, ∀ (k : Nat) (x : IOp), ds[k]? = some x → x.dst = some t → k ∈ d.pre ∨ (x.eff = true ∧ (k = i ∨ i ∈ x.pre))
  dst : ∀ (k : Nat) (x : IOp) t, ds[k]? = some x → d.dst = some t → x.dst = some t → k = i
  ro : d.eff = false → d.op.ro = true

theorem okLook_spec {i : Nat} {d : IOp} {t : Nat} : ∀ {l : List IOp} {n : Nat}, okLook i d t n l = true → ∀ (k : Nat) (x : IOp), l[k]? = some x → x.dst = some t → n + k ∈ d.pre ∨ (x.eff = true ∧ (n + k = i ∨ i ∈ x.pre))
  | [], n, _, k, x, hx, _ => by simp at hx
  | y :: ys, n, h, k, x, hx, hd => by
    simp only [okLook, Bool.and_eq_true, Bool.or_eq_true, Bool.not_eq_true'] at h
    obtain ⟨h1, h2⟩ := h
    cases k with
    | zero =>
      simp at hx; subst hx
      rcases h1 with (h1 | h1) | h1
      · rw [hd] at h1; simp [optEq] at h1
      · exact .inl ((nameIn_iff _ _).1 h1)
      · exact .inr ⟨h1.1, h1.2.imp (fun h => beq_eq h) (fun h => (nameIn_iff _ _).1 h)⟩
    | succ k =>
      have := okLook_spec h2 k x (by simpa using hx) hd
      rw [show n + (k + 1) = n + 1 + k by omega]; exact this
theorem okDst_spec {i : Nat} {d : IOp} : ∀ {l : List IOp} {n : Nat}, okDst i d n l = true → ∀ (k : Nat) (x : IOp) t, l[k]? = some x → d.dst = some t → x.dst = some t → n + k = i
  | [], n, _, k, x, t, hx, _, _ => by simp at hx
  | y :: ys, n, h, k, x, t, hx, hd, hxd => by
    simp only [okDst, Bool.and_eq_true, Bool.or_eq_true, Bool.not_eq_true'] at h
    obtain ⟨h1, h2⟩ := h
    cases k with
    | zero =>
      simp at hx; subst hx
      rcases h1 with (h1 | h1) | h1
      · exact beq_eq h1
      · rw [hd] at h1; cases h1
      · rw [hd, hxd] at h1; simp [optEq] at h1
    | succ k =>
      have := okDst_spec h2 k x t (by simpa using hx) hd hxd
      omega
theorem chkD1_spec {ops : Array Oper} {ds : List IOp} {i : Nat} {o : Oper} {d : IOp} (h : chkD1 X.P X.G X.N ops ds i o d = true) : D1 X ops ds i o d := by
  simp only [chkD1, Bool.and_eq_true, Bool.or_eq_true, List.all_eq_true, List.any_eq_true] at h
  obtain ⟨⟨⟨⟨⟨h1, h2⟩, h3⟩, h4⟩, h5⟩, h6⟩ := h
  refine ⟨h1, fun x hx hb => (by
    rcases h2 x hx with h | h
    · rw [hb] at h; cases h
    · exact Nat.le_of_ble_eq_true h), fun x hx => ?_, fun t ht k x hk hx => ?_, fun k x t hk hd hx => ?_, fun he => ?_⟩
  · obtain ⟨g1, ed, g2, g3, g4⟩ := h3 x hx
    exact ⟨Nat.le_of_ble_eq_true g1, ed, g2, g3, g4.imp (fun h => beq_eq h) (fun h => (nameIn_iff _ _).1 h)⟩
  · have := okLook_spec (h4 t ht) k x hk hx
    simpa using this
  · have := okDst_spec h5 k x t hk hd hx
    simpa using this
  · rcases h6 with h6 | h6
    · rw [he] at h6; cases h6
    · exact h6
theorem chkDs_spec {ops : Array Oper} {ds : List IOp} : ∀ {os : List Oper} {r : List IOp} {n : Nat}, chkDs X.P X.G X.N ops ds n os r = true → r.length = os.length ∧ ∀ (k : Nat) o d, os[k]? = some o → r[k]? = some d → D1 X ops ds (n + k) o d
  | [], [], n, _ => ⟨rfl, fun k o d h _ => by simp at h⟩
  | [], _ :: _, n, h => by simp [chkDs] at h
  | _ :: _, [], n, h => by simp [chkDs] at h
  | o :: os, d :: r, n, h => by
    simp only [chkDs, Bool.and_eq_true] at h
    obtain ⟨h1, h2⟩ := chkDs_spec h.2
    refine ⟨by simp [h1], fun k o' d' ho hd => ?_⟩
    cases k with
    | zero => simp at ho hd; subst ho hd; exact chkD1_spec h.1
    | succ k => rw [show n + (k + 1) = n + 1 + k by omega]; exact h2 k o' d' (by simpa using ho) (by simpa using hd)

/-- The region, as the checker saw it. -/
structure DR (X : Cx) (ops : Array Oper) (ds : List IOp) : Prop where
  mixed : X.P.follows .mixedOrders = true
  len : ds.length = ops.size
  one : ∀ (k : Nat) o d, ops[k]? = some o → ds[k]? = some d → D1 X ops ds k o d
theorem chkD_spec {ops : Array Oper} {ds : List IOp} (h : chkD X.P X.G X.N ops ds = true) : DR X ops ds := by
  simp only [chkD, Bool.and_eq_true] at h
  obtain ⟨h1, h2⟩ := chkDs_spec h.2
  exact ⟨h.1, by simpa using h1, fun k o d ho hd => by have := h2 k o d (by simpa using ho) hd; simpa using this⟩

/-- What an operation without effect gives, in this world, at these slots. -/
def Yc (P : Program) (ops : Array Oper) (o : Oper) (a : Act) (w : World) (c : Value) : Prop :=
  (Region.wanted o (yielded ops a.tmps) = true ∧ ((execOp a.eval o).run P w = .ok (.value c) w ∨ ((execOp a.eval o).run P w = .ok .skip w ∧ c = undef))) ∨
  (Region.wanted o (yielded ops a.tmps) = false ∧ c = undef)

theorem read_sound {ops : Array Oper} {ds : List IOp} {i : Nat} {o : Oper} {d : IOp} (h1 : D1 X ops ds i o d) (he : d.eff = false) {fr : Fr} {a : Act} (hr : Rel X.G e H w) (hf : FrR X.N e fr a) {k : Fr → Hp → T} (h : sat X Q (iopT d fr H k)) :
    ∃ fr' c, FrR X.N e fr' (a.put o.dst c) ∧ Yc X.P ops o a w c ∧ sat X Q (k fr' H) := by
  have hc := h1.iop
  simp only [chkIop, Bool.and_eq_true] at hc
  obtain ⟨⟨⟨g1, g2⟩, g3⟩, g4⟩ := hc
  have g1 := optEq_eq g1
  have g2 := optLt_eq g2
  have hto := Step.to (Step.refl hr) hr
  rcases iop_cases g3 hf h with ⟨hw, fr', hf', hk⟩ | ⟨hw, fr', hf', hk⟩
  · obtain ⟨v, c, hrun, hv, hk⟩ := chkI0 (h1.ro he) g4 o rfl e H w fr a Q _ hr hf hk
    rw [← g1] at hk
    exact ⟨_, c, hf'.put hto g2 hv, .inl ⟨hw, hrun⟩, hk⟩
  · rw [← g1] at hk
    exact ⟨_, undef, hf'.put hto g2 (mk_none _), .inr ⟨hw, rfl⟩, hk⟩

theorem again_sound {ops : Array Oper} {ds : List IOp} {i : Nat} {o : Oper} {d : IOp} (h1 : D1 X ops ds i o d) (he : d.eff = false) {fr : Fr} {a : Act} (hr : Rel X.G e H w) (hf : FrR X.N e fr a) {next : T} (h : sat X Q (againT d fr H next)) :
    ∃ c, FrR X.N e fr (a.put o.dst c) ∧ Yc X.P ops o a w c ∧ sat X Q next := by
  have hc := h1.iop
  simp only [chkIop, Bool.and_eq_true] at hc
  obtain ⟨⟨⟨g1, g2⟩, g3⟩, g4⟩ := hc
  have g1 := optEq_eq g1
  have g2 := optLt_eq g2
  -- a value that fits what the frame has
  have putd {c : Value} (hv : ∀ t, o.dst = some t → AV.val e (fr.at t) c) : FrR X.N e fr (a.put o.dst c) := by
    cases hd : o.dst with
    | none => exact hf
    | some t =>
      have ht := g2 t hd
      refine ⟨by simp [Act.put, hf.size], hf.defers, fun s => ?_⟩
      by_cases hts : t = s
      · subst hts
        have : (a.put (some t) c).tmps.getD t undef = c := by simp [Act.put, Array.getD_eq_getD_getElem?, hf.size, ht]
        rw [this]; exact hv t hd
      · have : (a.put (some t) c).tmps.getD s undef = a.tmps.getD s undef := by simp [Act.put, Array.getD_eq_getD_getElem?, Array.getElem?_setIfInBounds_ne hts]
        rw [this]; exact hf.slot s
  have one (hw : Region.wanted o (yielded ops a.tmps) = true) (h : sat X Q (againT.one d fr H next)) : ∃ c, FrR X.N e fr (a.put o.dst c) ∧ Yc X.P ops o a w c ∧ sat X Q next := by
    obtain ⟨v, c, hrun, hv, hk⟩ := chkI0 (h1.ro he) g4 o rfl e H w fr a Q _ hr hf h
    split at hk
    · rename_i hd
      refine ⟨c, putd fun t ht => ?_, .inl ⟨hw, hrun⟩, hk⟩
      rw [g1, hd] at ht; cases ht
    · rename_i t hd
      simp only [lk_eq] at hk
      obtain ⟨hve, hk⟩ := hk
      refine ⟨c, putd fun t' ht => ?_, .inl ⟨hw, hrun⟩, hk⟩
      rw [g1, hd] at ht
      obtain rfl := Option.some.inj ht
      rw [hve]; exact hv
  have nope (hw : Region.wanted o (yielded ops a.tmps) = false) (h : sat X Q (againT.off d fr next)) : ∃ c, FrR X.N e fr (a.put o.dst c) ∧ Yc X.P ops o a w c ∧ sat X Q next := by
    unfold againT.off at h
    split at h
    · rename_i hd
      exact ⟨undef, putd (fun t ht => by rw [g1, hd] at ht; cases ht), .inr ⟨hw, rfl⟩, h⟩
    · rename_i t hd
      simp only [lk_eq] at h
      split at h
      · rename_i hu
        refine ⟨undef, putd (fun t' ht => ?_), .inr ⟨hw, rfl⟩, h⟩
        rw [g1, hd] at ht
        obtain rfl := Option.some.inj ht
        rw [hu]; exact mk_none _
      · exact h.elim
  unfold againT at h
  unfold chkGuard at g3
  split at g3
  · rename_i hg1 hg2
    simp only [hg2] at h
    exact one (by simp [Region.wanted, hg1]) h
  · rename_i j want g want' hg1 hg2
    simp only [hg2, lk_eq] at h
    simp only [Bool.and_eq_true] at g3
    obtain ⟨h5, h6⟩ := g3
    have := beqB_eq h5
    subst this
    split at h6
    · rename_i oj hoj
      have hdst := optEq_eq h6
      split at h
      · rename_i b hb
        have hval := hf.slot g
        rw [hb] at hval
        have hcv := val_bool' hval
        have hy : yielded ops a.tmps j = some b := yielded_of hoj hdst hcv
        have hw : Region.wanted o (yielded ops a.tmps) = (some b == some want) := by simp [Region.wanted, hg1, hy]
        cases want with
        | true =>
          simp only at h
          cases b with
          | true => exact one (by rw [hw]; rfl) (h.1 rfl)
          | false => exact nope (by rw [hw]; rfl) (h.2 rfl)
        | false =>
          simp only at h
          cases b with
          | true => exact nope (by rw [hw]; rfl) (h.1 rfl)
          | false => exact one (by rw [hw]; rfl) (h.2 rfl)
      · rename_i hb
        have hval := hf.slot g
        rw [hb] at hval
        exact nope (by simp [Region.wanted, hg1, yielded_none hoj hdst (val_none hval)]) h
      · exact h.elim
    · cases h6
  · cases g3

/-! ### Slots that an operation looks at -/
def Same (ops : Array Oper) (o : Oper) (a b : Act) : Prop := ∀ t ∈ o.looksAt ops, a.tmps.getD t undef = b.tmps.getD t undef

theorem noSelect {P : Program} {G : Gl} {op : Op} {i : I} (h : chkI P G op i = true) : ∀ cs b, op ≠ .select cs b := by
  intro cs b he
  subst he
  cases i <;> simp [chkI, callB, callV] at h

theorem same_exec {ops : Array Oper} {o : Oper} {a b : Act} (hs : ∀ cs b, o.op ≠ .select cs b) (h : Same ops o a b) : execOp a.eval o = execOp b.eval o := by
  refine execOp_congr o hs fun x hx => ?_
  cases x with
  | tmp t => exact h t (List.mem_append_left _ (List.mem_filterMap.2 ⟨.tmp t, by simpa using hx, rfl⟩))
  | _ => rfl
theorem same_wanted {ops : Array Oper} {o : Oper} {a b : Act} (hn : a.tmps.size = b.tmps.size) (h : Same ops o a b) : Region.wanted o (yielded ops a.tmps) = Region.wanted o (yielded ops b.tmps) := by
  unfold Region.wanted
  cases hg : o.guard with
  | none => rfl
  | some gw =>
    obtain ⟨g, want⟩ := gw
    have hy : yielded ops a.tmps g = yielded ops b.tmps g := by
      unfold yielded
      cases ht : (ops[g]?).bind (·.dst) with
      | none => rfl
      | some t =>
        have hm : t ∈ o.looksAt ops := List.mem_append_right _ (by simp [hg, ht])
        have := h t hm
        simp only [Option.bind_some]
        have : a.tmps[t]? = b.tmps[t]? := by
          by_cases hl : t < a.tmps.size
          · have hl' : t < b.tmps.size := hn ▸ hl
            rw [Array.getElem?_eq_getElem hl, Array.getElem?_eq_getElem hl']
            simp only [Array.getD_eq_getD_getElem?, Array.getElem?_eq_getElem hl, Array.getElem?_eq_getElem hl', Option.getD_some] at this
            rw [this]
          · rw [Array.getElem?_eq_none (Nat.le_of_not_lt hl), Array.getElem?_eq_none (Nat.le_of_not_lt (hn ▸ hl))]
        rw [this]
    simp only [hy]
theorem Yc.same {P : Program} {ops : Array Oper} {o : Oper} {a b : Act} {c : Value} (hs : ∀ cs b, o.op ≠ .select cs b) (hn : a.tmps.size = b.tmps.size) (h : Same ops o a b) (hy : Yc P ops o a w c) : Yc P ops o b w c := by
  unfold Yc at *
  rw [same_exec hs h, same_wanted hn h] at hy
  exact hy

/-! ### All of it -/
theorem put_getD (a : Act) (dst : Option Nat) (c : Value) (t : Nat) (h : ∀ x, dst = some x → x < a.tmps.size) : (a.put dst c).tmps.getD t undef = if dst = some t then c else a.tmps.getD t undef := by
  cases dst with
  | none => simp [Act.put]
  | some d =>
    have hd := h d rfl
    by_cases hdt : d = t
    · subst hdt; simp [Act.put, Array.getD_eq_getD_getElem?, hd]
    · simp [Act.put, Array.getD_eq_getD_getElem?, Array.getElem?_setIfInBounds_ne hdt, hdt]
theorem put_size (a : Act) (dst : Option Nat) (c : Value) : (a.put dst c).tmps.size = a.tmps.size := by cases dst <;> simp [Act.put]
theorem put_defers (a : Act) (dst : Option Nat) (c : Value) : (a.put dst c).defers = a.defers := by cases dst <;> rfl

theorem D1.dsts {ops : Array Oper} {ds : List IOp} {i : Nat} {o : Oper} {d : IOp} (h : D1 X ops ds i o d) : o.dst = d.dst ∧ (∀ x, o.dst = some x → x < X.N) ∧ ∀ cs b, o.op ≠ .select cs b := by
  have := h.iop
  simp only [chkIop, Bool.and_eq_true] at this
  exact ⟨optEq_eq this.1.1.1, optLt_eq this.1.1.2, noSelect this.2⟩

theorem DR.get {ops : Array Oper} {ds : List IOp} (h : DR X ops ds) {i : Nat} {d : IOp} (hd : ds[i]? = some d) : ∃ o, ops[i]? = some o ∧ D1 X ops ds i o d := by
  have := lt_of_get hd
  rw [h.len] at this
  exact ⟨ops[i], by simp [this], h.one i _ d (by simp [this]) hd⟩

def YC (X : Cx) (ops : Array Oper) (w : World) (a : Act) (j : Nat) : Prop := ∀ o, ops[j]? = some o → ∃ c, Yc X.P ops o a w c ∧ ∀ t, o.dst = some t → a.tmps.getD t undef = c

theorem YC.put {ops : Array Oper} {ds : List IOp} (hD : DR X ops ds) {a : Act} (hn : a.tmps.size = X.N) {j : Nat} (h : YC X ops w a j) {i : Nat} {o : Oper} {d dj : IOp} (ho : ops[i]? = some o) (hd : ds[i]? = some d) (hdj : ds[j]? = some dj) (c : Value)
    (hij : i ≠ j) (hp : i ∉ dj.pre) (he : d.eff = false ∨ j ∉ d.pre) : YC X ops w (a.put o.dst c) j := by
  intro oj hoj
  obtain ⟨cj, h1, h2⟩ := h oj hoj
  have hi := hD.one i o d ho hd
  have hj := hD.one j oj dj hoj hdj
  obtain ⟨e1, e2, e3⟩ := hi.dsts
  obtain ⟨f1, f2, f3⟩ := hj.dsts
  have hb : ∀ x, o.dst = some x → x < a.tmps.size := fun x hx => by rw [hn]; exact e2 x hx
  refine ⟨cj, h1.same f3 (put_size a _ _).symm ?_, fun t ht => ?_⟩
  · intro t ht
    rw [put_getD a _ _ _ hb]
    split
    · rename_i hot
      rcases hj.look t ht i d hd (by rw [← e1]; exact hot) with h3 | ⟨h3, h4⟩
      · exact absurd h3 hp
      · rcases he with he | he
        · rw [he] at h3; cases h3
        · exact absurd (h4.resolve_left hij) he
    · rfl
  · rw [put_getD a _ _ _ hb]
    split
    · rename_i hot
      exact absurd (hj.dst i d t hd (by rw [← f1]; exact ht) (by rw [← e1]; exact hot)) hij
    · exact h2 t ht
theorem YC.own {ops : Array Oper} {ds : List IOp} (hD : DR X ops ds) {a : Act} (hn : a.tmps.size = X.N) {i : Nat} {o : Oper} {d : IOp} (ho : ops[i]? = some o) (hd : ds[i]? = some d) (he : d.eff = false) {c : Value} (h : Yc X.P ops o a w c) : YC X ops w (a.put o.dst c) i := by
  intro oj hoj
  rw [ho] at hoj; obtain rfl := Option.some.inj hoj
  have hi := hD.one i o d ho hd
  obtain ⟨e1, e2, e3⟩ := hi.dsts
  have hb : ∀ x, o.dst = some x → x < a.tmps.size := fun x hx => by rw [hn]; exact e2 x hx
  refine ⟨c, h.same e3 (put_size a _ _).symm ?_, fun t ht => by rw [put_getD a _ _ _ hb, if_pos ht]⟩
  intro t ht
  rw [put_getD a _ _ _ hb]
  split
  · rename_i hot
    rcases hi.look t ht i d hd (by rw [← e1]; exact hot) with h3 | ⟨h3, _⟩
    · have := (hi.pre i h3).1; omega
    · rw [he] at h3; cases h3
  · rfl

theorem drop_cons {α : Type} {l : List α} {i : Nat} {x : α} {r : List α} (h : l.drop i = x :: r) : l[i]? = some x ∧ l.drop (i + 1) = r := by
  have hi : i < l.length := by
    rcases Nat.lt_or_ge i l.length with h' | h'
    · exact h'
    · rw [List.drop_eq_nil_of_le h'] at h; cases h
  rw [List.drop_eq_getElem_cons hi] at h
  simp only [List.cons.injEq] at h
  exact ⟨by rw [List.getElem?_eq_getElem hi, h.1], h.2⟩

theorem agains_sound {ops : Array Oper} {ds : List IOp} (hD : DR X ops ds) (hr : Rel X.G e H w) {fr : Fr} {P : List Nat} {S : Nat → Prop} (hP : ∀ j ∈ P, ∃ d, ds[j]? = some d ∧ d.eff = false) {next : T} : ∀ {l : List IOp} {i : Nat} {a : Act}, ds.drop i = l → FrR X.N e fr a → (∀ j ∈ P, S j → j < i → YC X ops w a j) →
    sat X Q (againsT P i l fr H next) → ∃ a', FrR X.N e fr a' ∧ (∀ j ∈ P, S j → YC X ops w a' j) ∧ sat X Q next ∧ (∀ t, (∀ j ∈ P, S j → ∀ d, ds[j]? = some d → d.dst ≠ some t) → a'.tmps.getD t undef = a.tmps.getD t undef)
  | [], i, a, hl, hf, hy, h => by
    refine ⟨a, hf, fun j hj hS => hy j hj hS ?_, h, fun _ _ => rfl⟩
    obtain ⟨d, hd, _⟩ := hP j hj
    have h1 := lt_of_get hd
    have h2 : ds.length ≤ i := List.drop_eq_nil_iff.1 hl
    omega
  | d :: l, i, a, hl, hf, hy, h => by
    obtain ⟨hd, hl⟩ := drop_cons hl
    simp only [againsT] at h
    split at h
    · rename_i hiP
      have hiP := (nameIn_iff _ _).1 hiP
      obtain ⟨d', hd', he⟩ := hP i hiP
      rw [hd] at hd'; obtain rfl := Option.some.inj hd'
      obtain ⟨o, ho, hi⟩ := hD.get hd
      obtain ⟨c, hf', hyc, h⟩ := again_sound hi he hr hf h
      by_cases hSi : S i
      case neg =>
        refine agains_sound hD hr hP hl hf (fun j hj hSj hji => hy j hj hSj ?_) h
        by_cases hij : j = i
        · subst hij; exact absurd hSj hSi
        · omega
      obtain ⟨a', g1, g2, g3, g4⟩ := agains_sound hD hr hP hl hf' (fun j hj hSj hji => by
        by_cases hij : j = i
        · subst hij; exact YC.own hD hf.size ho hd he hyc
        · obtain ⟨dj, hdj, _⟩ := hP j hj
          obtain ⟨oj, hoj, hjd⟩ := hD.get hdj
          refine YC.put hD hf.size (hy j hj hSj (by omega)) ho hd hdj c (fun h => hij h.symm) ?_ (.inl he)
          intro hp
          have := (hjd.pre i hp).1; omega) h
      refine ⟨a', g1, g2, g3, fun t ht => ?_⟩
      rw [g4 t ht, put_getD a _ _ _ (fun x hx => by rw [hf.size]; exact hi.dsts.2.1 x hx), if_neg]
      rw [hi.dsts.1]; exact ht i hiP hSi d hd
    · rename_i hiP
      refine agains_sound hD hr hP hl hf (fun j hj hSj hji => hy j hj hSj ?_) h
      by_cases hij : j = i
      · subst hij; rw [(nameIn_iff _ _).2 hj] at hiP; cases hiP
      · omega

theorem subN_iff : ∀ {xs M : List Nat}, subN xs M = true ↔ ∀ x ∈ xs, x ∈ M
  | [], M => by simp [subN]
  | x :: xs, M => by simp [subN, Bool.and_eq_true, nameIn_iff, subN_iff]
theorem dropN_iff {D : List Nat} : ∀ {xs : List Nat} {x : Nat}, x ∈ dropN D xs ↔ x ∈ xs ∧ x ∉ D
  | [], x => by simp [dropN]
  | y :: ys, x => by
    simp only [dropN]
    split
    · rename_i h
      have := (nameIn_iff _ _).1 h
      rw [dropN_iff]
      constructor
      · rintro ⟨a, b⟩; exact ⟨List.mem_cons_of_mem _ a, b⟩
      · rintro ⟨a, b⟩
        rcases List.mem_cons.1 a with rfl | a
        · exact absurd this b
        · exact ⟨a, b⟩
    · rename_i h
      have : y ∉ D := fun hm => by rw [(nameIn_iff _ _).2 hm] at h; cases h
      rw [List.mem_cons, dropN_iff, List.mem_cons]
      constructor
      · rintro (rfl | ⟨a, b⟩)
        · exact ⟨.inl rfl, this⟩
        · exact ⟨.inr a, b⟩
      · rintro ⟨rfl | a, b⟩
        · exact .inl rfl
        · exact .inr ⟨a, b⟩

/-- What has been evaluated, and in what world. -/
structure Sim (X : Cx) (ops : Array Oper) (ds : List IOp) (S : Nat → Prop) (M P : List Nat) (fr : Fr) (H : Hp) (e : Env) (w : World) (a : Act) : Prop where
  frr : FrR X.N e fr a
  clo : ∀ j ∈ M, ∀ x ∈ preOf ds j, x ∈ M
  pin : ∀ j ∈ P, j ∈ M ∧ ∃ d, ds[j]? = some d ∧ d.eff = false
  yc : ∀ j ∈ P, S j → YC X ops w a j

theorem reads_sound {ops : Array Oper} {ds : List IOp} {S : Nat → Prop} (hD : DR X ops ds) (hr : Rel X.G e H w) {k : List Nat → List Nat → Fr → T} : ∀ {l : List IOp} {i : Nat} {M P : List Nat} {fr : Fr} {a : Act}, ds.drop i = l → Sim X ops ds S M P fr H e w a →
    sat X Q (readsT i l M P fr H k) → ∃ M' P' fr' a', Sim X ops ds S M' P' fr' H e w a' ∧ sat X Q (k M' P' fr') ∧ (∀ x ∈ M, x ∈ M') ∧ (∀ x ∈ P, x ∈ P') ∧ (∀ x ∈ M', x ∈ M ∨ (i ≤ x ∧ x ∈ P' ∧ ∃ d, ds[x]? = some d ∧ d.eff = false)) ∧
      (∀ t, (∀ j ∈ M', j ∉ M → ∀ d, ds[j]? = some d → d.dst ≠ some t) → a'.tmps.getD t undef = a.tmps.getD t undef) ∧
      (∀ (j : Nat) d, i ≤ j → ds[j]? = some d → d.eff = false → (∀ x ∈ d.pre, x ∈ M') → j ∈ M')
  | [], i, M, P, fr, a, hl, hs, h => by
    refine ⟨M, P, fr, a, hs, h, fun _ h => h, fun _ h => h, fun _ h => .inl h, fun _ _ => rfl, fun j d hj hd _ _ => ?_⟩
    have h1 := lt_of_get hd
    have h2 : ds.length ≤ i := List.drop_eq_nil_iff.1 hl
    omega
  | d :: l, i, M, P, fr, a, hl, hs, h => by
    obtain ⟨hd, hl⟩ := drop_cons hl
    simp only [readsT] at h
    split at h
    · rename_i he hiM hsub
      rw [Bool.eq_false_iff] at hiM
      have hiM : i ∉ M := fun hm => hiM ((nameIn_iff _ _).2 hm)
      have hsub := subN_iff.1 hsub
      obtain ⟨o, ho, hi⟩ := hD.get hd
      obtain ⟨fr', c, hf', hyc, h⟩ := read_sound hi he hr hs.frr h
      rw [litK_eq] at h
      have hs' : Sim X ops ds S (i :: M) (i :: P) fr' H e w (a.put o.dst c) := by
        refine ⟨hf', ?_, ?_, ?_⟩
        · intro j hj x hx
          rcases List.mem_cons.1 hj with rfl | hj
          · simp only [preOf, hd] at hx; exact List.mem_cons_of_mem _ (hsub x hx)
          · exact List.mem_cons_of_mem _ (hs.clo j hj x hx)
        · intro j hj
          rcases List.mem_cons.1 hj with rfl | hj
          · exact ⟨List.mem_cons_self .., d, hd, he⟩
          · exact ⟨List.mem_cons_of_mem _ (hs.pin j hj).1, (hs.pin j hj).2⟩
        · intro j hj hSj
          rcases List.mem_cons.1 hj with rfl | hj
          · exact YC.own hD hs.frr.size ho hd he hyc
          · obtain ⟨hjM, dj, hdj, _⟩ := hs.pin j hj
            refine YC.put hD hs.frr.size (hs.yc j hj hSj) ho hd hdj c (fun e => hiM (e ▸ hjM)) ?_ (.inl he)
            intro hp
            exact hiM (hs.clo j hjM i (by simp only [preOf, hdj]; exact hp))
      obtain ⟨M', P', fr2, a2, g1, g2, g3, g0, g4, g5, g6⟩ := reads_sound hD hr hl hs' h
      refine ⟨M', P', fr2, a2, g1, g2, fun x hx => g3 x (List.mem_cons_of_mem _ hx), fun x hx => g0 x (List.mem_cons_of_mem _ hx), fun x hx => ?_, fun t ht => ?_, fun j dj hj hdj hej hpj => ?_⟩
      · rcases g4 x hx with h1 | ⟨h1, h2, h3⟩
        · rcases List.mem_cons.1 h1 with rfl | h1
          · exact .inr ⟨Nat.le_refl _, g0 _ (List.mem_cons_self ..), d, hd, he⟩
          · exact .inl h1
        · exact .inr ⟨by omega, h2, h3⟩
      · rw [g5 t (fun j hj hjM => ht j hj (fun hm => hjM (List.mem_cons_of_mem _ hm))), put_getD a _ _ _ (fun x hx => by rw [hs.frr.size]; exact hi.dsts.2.1 x hx), if_neg]
        rw [hi.dsts.1]; exact ht i (g3 i (List.mem_cons_self ..)) hiM d hd
      · by_cases hij : j = i
        · subst hij; exact g3 _ (List.mem_cons_self ..)
        · exact g6 j dj (by omega) hdj hej hpj
    · rename_i hno
      obtain ⟨M', P', fr2, a2, g1, g2, g3, g0, g4, g5, g6⟩ := reads_sound hD hr hl hs h
      refine ⟨M', P', fr2, a2, g1, g2, g3, g0, fun x hx => ?_, g5, fun j dj hj hdj hej hpj => ?_⟩
      · rcases g4 x hx with h1 | ⟨h1, h2⟩
        · exact .inl h1
        · exact .inr ⟨by omega, h2⟩
      · by_cases hij : j = i
        · subst hij
          rw [hd] at hdj; obtain rfl := Option.some.inj hdj
          by_cases hjM : j ∈ M
          · exact g3 j hjM
          · exfalso
            obtain ⟨o, ho, hi⟩ := hD.get hd
            refine hno hej ?_ ?_
            · cases hb : nameIn j M with
              | true => exact absurd ((nameIn_iff _ _).1 hb) hjM
              | false => rfl
            · refine subN_iff.2 fun x hx => ?_
              rcases g4 x (hpj x hx) with h1 | ⟨h1, _⟩
              · exact h1
              · have := (hi.pre x hx).1; omega
        · exact g6 j dj (by omega) hdj hej hpj

theorem cands_sound {f : Nat → IOp → T} {M : List Nat} : ∀ {l : List IOp} {n : Nat} {acc : Option T}, sat X Q (candsT f M n l acc) →
    (∀ t, acc = some t → sat X Q t) ∧ ∀ (k : Nat) d, l[k]? = some d → d.eff = true → n + k ∉ M → (∀ x ∈ d.pre, x ∈ M) → sat X Q (f (n + k) d)
  | [], n, acc, h => by
    cases acc with
    | none => exact h.elim
    | some t => exact ⟨fun t' ht => by obtain rfl := Option.some.inj ht; exact h, fun k d hk => by simp at hk⟩
  | o :: os, n, acc, h => by
    simp only [candsT] at h
    split at h
    · rw [litK_eq] at h
      cases acc with
      | none =>
        obtain ⟨h1, h2⟩ := cands_sound h
        refine ⟨fun t ht => (by cases ht), fun k d hk he hm hp => ?_⟩
        cases k with
        | zero => simp at hk; subst hk; exact h1 _ rfl
        | succ k => rw [show n + (k + 1) = n + 1 + k by omega] at hm ⊢; exact h2 k d (by simpa using hk) he hm hp
      | some t =>
        obtain ⟨h1, h2⟩ := cands_sound h
        have h3 := h1 _ rfl
        refine ⟨fun t' ht => by obtain rfl := Option.some.inj ht; exact h3.1, fun k d hk he hm hp => ?_⟩
        cases k with
        | zero => simp at hk; subst hk; exact h3.2
        | succ k => rw [show n + (k + 1) = n + 1 + k by omega] at hm ⊢; exact h2 k d (by simpa using hk) he hm hp
    · rename_i hno
      obtain ⟨h1, h2⟩ := cands_sound h
      refine ⟨h1, fun k d hk he hm hp => ?_⟩
      cases k with
      | zero =>
        simp at hk; subst hk
        exfalso
        refine hno he ?_ (subN_iff.2 hp)
        cases hb : nameIn n M with
        | true => exact absurd ((nameIn_iff _ _).1 hb) (by simpa using hm)
        | false => rfl
      | succ k => rw [show n + (k + 1) = n + 1 + k by omega] at hm ⊢; exact h2 k d (by simpa using hk) he hm hp

theorem allN_iff {M : List Nat} : ∀ {l : List IOp} {n : Nat}, allN n l M = true ↔ ∀ k, k < l.length → n + k ∈ M
  | [], n => by simp [allN]
  | o :: os, n => by
    simp only [allN, Bool.and_eq_true, nameIn_iff, allN_iff, List.length_cons]
    constructor
    · rintro ⟨h1, h2⟩ k hk
      cases k with
      | zero => simpa using h1
      | succ k => rw [show n + (k + 1) = n + 1 + k by omega]; exact h2 k (by omega)
    · intro h
      refine ⟨by simpa using h 0 (by omega), fun k hk => ?_⟩
      rw [show n + 1 + k = n + (k + 1) by omega]; exact h (k + 1) (by omega)

def unl (listed : Array Bool) (n : Nat) : Nat := (List.range n).countP fun i => !(listed.getD i true)
theorem countP_one {p q : Nat → Bool} {i : Nat} : ∀ {l : List Nat}, l.Nodup → i ∈ l → p i = true → q i = false → (∀ j, j ≠ i → q j = p j) → l.countP q + 1 = l.countP p
  | [], _, h, _, _, _ => by cases h
  | x :: l, hn, hm, hp, hq, hj => by
    rw [List.nodup_cons] at hn
    have same : ∀ l : List Nat, i ∉ l → l.countP q = l.countP p := by
      intro l hl
      induction l with
      | nil => rfl
      | cons y l ih =>
        simp only [List.mem_cons, not_or] at hl
        rw [List.countP_cons, List.countP_cons, ih hl.2, hj y (fun e => hl.1 e.symm)]
    rcases List.mem_cons.1 hm with rfl | hm
    · rw [List.countP_cons, List.countP_cons, same l hn.1, hp, hq]; simp
    · have hx : x ≠ i := fun e => hn.1 (e ▸ hm)
      have := countP_one hn.2 hm hp hq hj
      rw [List.countP_cons, List.countP_cons, hj x hx]
      omega
theorem listed_set {listed : Array Bool} {i : Nat} (hi : i < listed.size) (j : Nat) : (listed.setIfInBounds i true).getD j true = if j = i then true else listed.getD j true := by
  by_cases hj : j = i
  · subst hj; simp [Array.getD_eq_getD_getElem?, hi]
  · rw [if_neg hj]
    simp [Array.getD_eq_getD_getElem?, Array.getElem?_setIfInBounds_ne (fun e => hj e.symm)]
theorem unl_set {listed : Array Bool} {n i : Nat} (hs : listed.size = n) (hi : i < n) (hl : listed.getD i true = false) : unl (listed.setIfInBounds i true) n + 1 = unl listed n := by
  refine countP_one List.nodup_range (by simpa using hi) (by rw [hl]; rfl) (by rw [listed_set (by omega), if_pos rfl]; rfl) (fun j hj => by rw [listed_set (by omega), if_neg hj])
end Stk
end
