/- The framework, part 7: addresses, parts, cuts, lengths. -/
import Derived.Test.YthkbahbbdacgeaaDoorFw6
namespace Stk
open Go
variable {X : Cx} {Q : Ex → Fr → Hp → Prop} {e : Env} {H : Hp} {w : World}

def chkOpds (G : Gl) : List Opd → List Operand → Bool
  | [], [] => true
  | x :: xs, y :: ys => chkOpd G x y && chkOpds G xs ys
  | _, _ => false
theorem chkOpds_vals {fr : Fr} {a : Act} (hr : Rel X.G e H w) (hf : FrR X.N e fr a) : ∀ {xs : List Opd} {ys : List Operand}, chkOpds X.G xs ys = true → AV.vals e (xs.map (·.at fr)) (ys.map a.eval)
  | [], [], _ => by simp [AV.vals]
  | [], _ :: _, h => by simp [chkOpds] at h
  | _ :: _, [], h => by simp [chkOpds] at h
  | x :: xs, y :: ys, h => by
    simp only [chkOpds, Bool.and_eq_true] at h
    simp only [List.map_cons, AV.vals]
    exact ⟨_, _, rfl, chkOpd_val hr hf h.1, chkOpds_vals hr hf h.2⟩

theorem op_mkfn {f : FuncId} {xs ys : List Opd} {xs' ys' : Array Operand} (h1 : chkOpds X.G xs xs'.toList = true) (h2 : chkOpds X.G ys ys'.toList = true) : OpS0 X (.makeFunc (.func f) xs' ys') (.mkfn f xs ys) := by
  intro o ho e H w fr a Q k hr hf hs
  have hx := chkOpds_vals hr hf h1
  have hy := chkOpds_vals hr hf h2
  simp only [opT, evsK_eq] at hs
  have : (execOp a.eval o).run X.P w = .ok (.value (.func (.func f) (xs'.map a.eval) (ys'.map a.eval))) w := by
    simp only [execOp, ho]; exact run_v (by simp [Instr.makeFunc])
  rw [this]
  refine Out.same hr ?_ hs
  simp only [AV.val]
  exact ⟨_, _, rfl, by simpa using hx, by simpa using hy⟩

theorem op_mkmap {t : TypeId} : OpS X (.makeMap t none) .mkmap := by
  intro o ho e H w fr a Q k hr hf hs
  simp only [opT, newK_eq] at hs
  have : (execOp a.eval o).run X.P w = .ok (.value (.map (some w.heap.size))) (w.alloc (.map #[] 0)) := by
    simp only [execOp, ho]
    refine run_v ?_
    simp [Instr.makeMap, newObj, bind, Sem.bind, Sem.run, pure]
  rw [this]
  have hst := Step.new (o := .map []) (ob := .map #[] 0) (esz := 0) (cap := 0) (n := none) hr ⟨rfl, #[], 0, rfl, by simp [mapRel]⟩
  refine ⟨_, _, _, _, _, .inl rfl, ?_, hst, hs⟩
  simp only [AV.val, AV.leaf]
  exact ⟨_, _, _, _, e.bind_same _ _, rfl⟩

theorem add_off (b o n : Nat) : (⟨b, o, none⟩ : Addr).add n = ⟨b, o + n, none⟩ := by unfold Addr.add; split <;> simp_all

/-- A struct's field: where it lies, its type. -/
def fldOf (P : Program) (s : TypeId) (f : Nat) : Option Field :=
  match P.underlying s with
  | some (.struct fs) => fs[f]?
  | _ => none
theorem fldOf_some {P : Program} {s : TypeId} {f : Nat} {fl : Field} (h : fldOf P s f = some fl) : ∃ fs, P.underlying s = some (.struct fs) ∧ fs[f]? = some fl := by
  unfold fldOf at h
  split at h
  · rename_i fs hu; exact ⟨fs, hu, h⟩
  · cases h
def szOf (P : Program) (t : TypeId) : Nat := ((P.info? t).map (·.size)).getD 0
theorem run_sizeOf {P : Program} {t : TypeId} {n : Nat} (h : (P.info? t).map (·.size) = some n) (w : World) : (Go.sizeOf t).run P w = .ok n w := by
  cases hi : P.info? t with
  | none => rw [hi] at h; cases h
  | some i => rw [hi] at h; simp at h; simp [Go.sizeOf, typeInfo, program, bind, Sem.bind, Sem.run, hi, pure, h]

theorem op_fa {s : TypeId} {f off n : Nat} {x : Opd} {x' : Operand} {fl : Field} (hx : chkOpd X.G x x' = true) (hfl : fldOf X.P s f = some fl) (hoff : fl.offset = off) (hn : (X.P.info? fl.type).map (·.size) = some (n + 1)) :
    OpS0 X (.fieldAddr s x' f) (.fa off f x) := by
  intro o ho e H w fr a Q k hr hf hs
  have hxv := chkOpd_val hr hf hx
  simp only [opT, evK_eq] at hs
  obtain ⟨fs, hu, hget⟩ := fldOf_some hfl
  have run (b i : Nat) (hc : a.eval x' = .pointer (some ⟨b, i, none⟩)) : (execOp a.eval o).run X.P w = .ok (.value (.pointer (some ⟨b, i + off, none⟩))) w := by
    simp only [execOp, ho]
    refine run_v ?_
    simp only [Instr.fieldAt, Sem.run_bind, run_under hu, Result.andThen, hget, hc, Instr.sureAddr]
    simp [fieldPlace, run_sizeOf hn, Result.andThen, add_off, hoff]
  unfold faK at hs
  split at hs
  · rename_i b i o' p hxa
    rw [hxa] at hxv
    rw [snocK_eq] at hs
    simp only [AV.val, AV.leaf] at hxv
    obtain ⟨blk, esz, rc, nn, hβ, hc⟩ := hxv
    have hc : a.eval x' = .pointer (some ⟨blk, i * esz + o', none⟩) := by simpa using hc
    rw [run _ _ hc]
    refine Out.same hr ?_ hs
    simp only [AV.val, AV.leaf]
    exact ⟨blk, esz, rc, nn, hβ, by simp [Nat.add_assoc]⟩
  · rename_i xs hxa
    rw [hxa] at hxv
    simp only [AV.val, AV.leaf] at hxv
    obtain ⟨ad, mem, mid, hc, hsp, hm, hsub, hrel⟩ := hxv
    obtain ⟨y, d, hp, hs⟩ := sat_getT hs
    simp only [Nat.zero_add] at hs
    obtain ⟨my, hsy, hry, _⟩ := path_sound (y := .nilp) hp hrel
    split at hs
    · rename_i hd
      have hd := beq_eq hd
      have hc : a.eval x' = .pointer (some ⟨ad.block, ad.off, none⟩) := by rw [← addr_eta hsp]; simpa using hc
      rw [run _ _ hc, ← hd]
      refine Out.same hr ?_ hs
      simp only [AV.val, AV.leaf]
      exact ⟨_, mem, my, rfl, rfl, hm, hsub.trans hsy, hry⟩
    · exact hs.elim
  · exact hs.elim

/-- An element of an array at a fixed place. -/
theorem op_faC {t el : TypeId} {f off n esz : Nat} {j : IntKind} {m : Int} {x : Opd} {x' : Operand} (hx : chkOpd X.G x x' = true) (ht : X.P.underlying t = some (.array n el)) (hsz : (X.P.info? el).map (·.size) = some esz) (h0 : 0 ≤ m) (h1 : m < n) (hoff : m.toNat * esz = off) :
    OpS0 X (.indexAddr t x' (.const (.int j m))) (.fa off f x) := by
  intro o ho e H w fr a Q k hr hf hs
  have hxv := chkOpd_val hr hf hx
  simp only [opT, evK_eq] at hs
  have run (b i : Nat) (hc : a.eval x' = .pointer (some ⟨b, i, none⟩)) : (execOp a.eval o).run X.P w = .ok (.value (.pointer (some ⟨b, i + off, none⟩))) w := by
    simp only [execOp, ho]
    refine run_v ?_
    rw [hc]
    simp only [Act.eval, Instr.indexAt, asIntOf, Sem.run_bind, Sem.run_pure, Result.andThen, run_under ht, Instr.sureAddr]
    simp only [h0, h1, and_self, if_true, Sem.run_bind, run_sizeOf hsz, Result.andThen, hoff, ← add_off]
    rfl
  unfold faK at hs
  split at hs
  · rename_i b i o' p hxa
    rw [hxa] at hxv
    rw [snocK_eq] at hs
    simp only [AV.val, AV.leaf] at hxv
    obtain ⟨blk, esz, rc, nn, hβ, hc⟩ := hxv
    have hc : a.eval x' = .pointer (some ⟨blk, i * esz + o', none⟩) := by simpa using hc
    rw [run _ _ hc]
    refine Out.same hr ?_ hs
    simp only [AV.val, AV.leaf]
    exact ⟨blk, esz, rc, nn, hβ, by simp [Nat.add_assoc]⟩
  · rename_i xs hxa
    rw [hxa] at hxv
    simp only [AV.val, AV.leaf] at hxv
    obtain ⟨ad, mem, mid, hc, hsp, hm, hsub, hrel⟩ := hxv
    obtain ⟨y, d, hp, hs⟩ := sat_getT hs
    simp only [Nat.zero_add] at hs
    obtain ⟨my, hsy, hry, _⟩ := path_sound (y := .nilp) hp hrel
    split at hs
    · rename_i hd
      have hd := beq_eq hd
      have hc : a.eval x' = .pointer (some ⟨ad.block, ad.off, none⟩) := by rw [← addr_eta hsp]; simpa using hc
      rw [run _ _ hc, ← hd]
      refine Out.same hr ?_ hs
      simp only [AV.val, AV.leaf]
      exact ⟨_, mem, my, rfl, rfl, hm, hsub.trans hsy, hry⟩
    · exact hs.elim
  · exact hs.elim

theorem sat_t {b : Bool} {K : T} {s : String} (h : sat X Q (match b with
    | true => K
    | false => .stuck s)) : b = true ∧ sat X Q K := by
  cases b <;> first | exact h.elim | exact ⟨rfl, h⟩

theorem sat_sized4 {b1 b2 b3 agg : Bool} {K : T} {s : String} (h : sat X Q (match b1, b2, b3, agg with
    | true, true, true, true | true, true, false, false => K
    | _, _, _, _ => .stuck s)) : b1 = true ∧ b2 = true ∧ b3 = agg ∧ sat X Q K := by
  cases b1 <;> cases b2 <;> cases b3 <;> cases agg <;> first | exact h.elim | exact ⟨rfl, rfl, rfl, h⟩

theorem op_fld {s : TypeId} {f off n : Nat} {agg : Bool} {x : Opd} {x' : Operand} {fl : Field} (hx : chkOpd X.G x x' = true) (hfl : fldOf X.P s f = some fl) (hoff : fl.offset = off) (ht : tyOK X.P fl.type agg n = true) :
    OpS0 X (.field s x' f) (.fld agg off n f x) := by
  intro o ho e H w fr a Q k hr hf hs
  have hxv := chkOpd_val hr hf hx
  simp only [opT, evK_eq, fldK] at hs
  obtain ⟨fs, hu, hget⟩ := fldOf_some hfl
  obtain ⟨y, d, hp, hs⟩ := sat_getA hs
  simp only [Nat.zero_add] at hs
  -- the value is an aggregate
  have hag : ∃ cs, a.eval x' = .agg cs ∧ AV.rel e (x.at fr) cs.toList := by
    simp only [pathA] at hp
    split at hp
    · rename_i vs hvs
      unfold fieldsA at hvs
      split at hvs
      · rename_i hxa; rw [hxa] at hxv ⊢; simp only [AV.val] at hxv; obtain ⟨cs, h1, h2⟩ := hxv; exact ⟨cs, h1, by simpa [AV.rel] using h2⟩
      · rename_i hxa; rw [hxa] at hxv ⊢; simp only [AV.val, Tr.isAgg] at hxv; obtain ⟨cs, h1, h2⟩ := hxv; exact ⟨cs, h1, by simpa [AV.rel, AV.leaf] using h2⟩
      · cases hvs
    · cases hp
  obtain ⟨cs, hc, hrel⟩ := hag
  obtain ⟨mid, hsub, hry, _⟩ := pathA_sound (y := .undef) hp hrel
  have key : d = off ∧ y.sz = n ∧ y.isAgg = agg ∧ sat X Q (k y H) := by
    obtain ⟨h1, h2, h3, h4⟩ := sat_sized4 hs
    exact ⟨beq_eq h1, beq_eq h2, h3, h4⟩
  obtain ⟨hdo, hsz, hagg, hz⟩ := key
  subst hdo
  obtain ⟨hr1, hr2⟩ := tyOK_run ht w
  have hl := (AV.rel_length hry).1
  have base (c : Value) (h : (part fl.type cs d).run X.P w = .ok c w) : (execOp a.eval o).run X.P w = .ok (.value c) w := by
    simp only [execOp, ho]
    refine run_v ?_
    simp only [Instr.field, Sem.run_bind, run_under hu, Result.andThen, hget, hc, asAgg, hoff]
    simpa using h
  rcases AV.val_of_rel hry with ⟨h1, hval⟩ | ⟨h1, c, rfl, hval⟩
  · rw [h1] at hagg; subst hagg
    rw [base (.agg mid.toArray) (by
      simp only [part, Sem.run_bind, hr1, Result.andThen, if_true, hr2]
      have : cs.extract d (d + n) = mid.toArray := by
        apply Array.ext'
        rw [Array.toList_extract]
        simp only [List.extract_eq_take_drop]
        have := hsub.eq
        rw [show d + n - d = mid.length from by omega]; simpa using this
      rw [this]; rfl)]
    exact Out.same hr hval hz
  · rw [h1] at hagg; subst hagg
    rw [base c (by
      simp only [part, Sem.run_bind, hr1, Result.andThen]
      have := hsub.get (j := 0) rfl
      have : cs[d]? = some c := by simpa using this
      simp [this])]
    exact Out.same hr hval hz

theorem op_ext {x : Opd} {x' : Operand} {i : Nat} (hx : chkOpd X.G x x' = true) : OpS0 X (.extract x' i) (.ext x i) := by
  intro o ho e H w fr a Q k hr hf hs
  have hxv := chkOpd_val hr hf hx
  simp only [opT, evK_eq] at hs
  split at hs
  · rename_i vs hxa
    rw [hxa] at hxv
    obtain ⟨v, hv, hs⟩ := sat_nthK hs
    simp only [AV.val] at hxv
    obtain ⟨cs, hc, hvs⟩ := hxv
    have : ∀ (vs : List AV) (cs : List Value) (i : Nat) (v : AV), AV.vals e vs cs → vs[i]? = some v → ∃ c, cs[i]? = some c ∧ AV.val e v c := by
      intro vs
      induction vs with
      | nil => intro cs i v _ h; simp at h
      | cons u us ih =>
        intro cs i v h hi
        simp only [AV.vals] at h
        obtain ⟨c, b, rfl, h1, h2⟩ := h
        cases i with
        | zero => simp at hi; subst hi; exact ⟨c, rfl, h1⟩
        | succ i => obtain ⟨c', h3, h4⟩ := ih b i v h2 (by simpa using hi); exact ⟨c', by simpa using h3, h4⟩
    obtain ⟨c, hci, hval⟩ := this vs cs.toList i v hvs hv
    have hci : cs[i]? = some c := by simpa using hci
    have : (execOp a.eval o).run X.P w = .ok (.value c) w := by
      simp only [execOp, ho]
      refine run_v ?_
      simp [Instr.extract, hc, hci]
    rw [this]
    exact Out.same hr hval hs
  · exact hs.elim

theorem sat_intK {v : AV} {k : Int → T} (h : sat X Q (intK v k)) : ∃ j n, v = .t (.int j n) ∧ sat X Q (k n) := by
  unfold intK at h
  split at h
  · exact ⟨_, _, rfl, h⟩
  · exact h.elim

theorem op_ia {t el : TypeId} {esz : Nat} {x i : Opd} {x' i' : Operand} (hx : chkOpd X.G x x' = true) (hi : chkOpd X.G i i' = true) (ht : X.P.underlying t = some (.slice el)) (hsz : (X.P.info? el).map (·.size) = some esz) :
    OpS0 X (.indexAddr t x' i') (.ia esz x i) := by
  intro o ho e H w fr a Q k hr hf hs
  have hxv := chkOpd_val hr hf hx
  have hiv := chkOpd_val hr hf hi
  simp only [opT, evK_eq] at hs
  obtain ⟨j, n, hin, hs⟩ := sat_intK hs
  rw [hin] at hiv
  have ei := val_int hiv
  have run {ad : Addr} {len cap : Nat} (hc : a.eval x' = .slice (some ad) len cap) (h0 : 0 ≤ n) (h1 : n < len) : (execOp a.eval o).run X.P w = .ok (.value (.pointer (some (ad.add (n.toNat * esz))))) w := by
    simp only [execOp, ho]
    refine run_v ?_
    rw [hc, ei]
    simp only [Instr.indexAt, asIntOf, Sem.run_bind, Sem.run_pure, Result.andThen, run_under ht]
    simp only [h0, h1, and_self, if_true, Sem.run_bind, run_sizeOf hsz, Result.andThen]
    rfl
  have ro {xs : List Tr} {base : Option Addr} {cap : Nat} (hc : a.eval x' = .slice base xs.length cap)
      (hh : xs = [] ∨ ∃ ad mem mid, base = some ad ∧ ad.spot = none ∧ e.holds ad.block mem ∧ Sub mem ad.off mid ∧ Tr.row e.ro esz xs mid)
      (hs : sat X Q (.idx xs n fun y => k (.vp y) H)) : Out0 X e H w Q k ((execOp a.eval o).run X.P w) := by
    simp only [sat] at hs
    obtain ⟨y, h0, hy, hs⟩ := hs
    have hlt := lt_of_get hy
    rcases hh with rfl | ⟨ad, mem, mid, rfl, hsp, hm, hsub, hrow⟩
    · simp at hy
    · obtain ⟨my, hsy, _, hry⟩ := Tr.row_get hrow hy
      rw [run hc h0 (by omega)]
      refine Out.same hr ?_ hs
      simp only [AV.val, AV.leaf]
      have e1 : ad.add (n.toNat * esz) = ⟨ad.block, ad.off + n.toNat * esz, none⟩ := by
        have := add_off ad.block ad.off (n.toNat * esz)
        rw [← addr_eta hsp] at this; exact this
      rw [e1]
      exact ⟨_, mem, my, rfl, rfl, hm, hsub.trans hsy, hry⟩
  unfold iaK at hs
  split at hs
  · rename_i f e' xs hxa
    rw [hxa] at hxv
    simp only [AV.val, Tr.isAgg, Tr.rel] at hxv
    obtain ⟨base, cap, hc, _, _, hh⟩ := hxv
    split at hs
    · rename_i he; have he := beq_eq he; have hz := hs; subst he
      exact ro (by simpa using hc) (hh.imp id fun ⟨ad, mem, mid, h1, h2, h3, h4, h5⟩ => ⟨ad, mem, mid, h1, h2, .inl h3, h4, h5⟩) hz
    · exact hs.elim
  · rename_i e' xs hxa
    rw [hxa] at hxv
    simp only [AV.val, AV.leaf] at hxv
    obtain ⟨base, cap, hc, _, hh⟩ := hxv
    split at hs
    · rename_i he; have he := beq_eq he; have hz := hs; subst he
      exact ro (by simpa using hc) hh hz
    · exact hs.elim
  · rename_i b o' p off len cap hxa
    rw [hxa] at hxv
    simp only [sat] at hs
    obtain ⟨hb, hs⟩ := hs
    have hb := of_decide_eq_true hb
    obtain ⟨ob, hob, hs⟩ := sat_nthK hs
    simp only [AV.val, AV.leaf] at hxv
    rcases hxv with ⟨_, _, _, _, rfl, _, _⟩ | ⟨blk, esz', rc, nn, base, c, hβ, hc, hle, hin', hcap, hbase⟩
    · omega
    · have hbase : base = some ⟨blk, o' + off * esz', none⟩ := by
        rcases hbase with h | h
        · omega
        · exact h
      subst hbase
      have hc : a.eval x' = .slice (some ⟨blk, o' + off * esz', none⟩) len c := by simpa using hc
      rw [run hc hb.1 hb.2, add_off]
      cases ob with
      | row e' xs =>
        obtain ⟨oo, hoo, hrel⟩ := hr.obj b _ hob (by simp) _ _ _ _ hβ
        obtain ⟨rfl, hnn, _⟩ := hrel
        obtain ⟨_, rfl, _⟩ := hin' _ hnn
        obtain ⟨he, hz⟩ := sat_t hs
        have he := beq_eq he
        subst he
        refine Out.same hr ?_ hz
        simp only [AV.val, AV.leaf]
        exact ⟨blk, _, rc, nn, hβ, by simp [Nat.add_mul]⟩
      | var vv =>
        obtain ⟨oo, hoo, hrel⟩ := hr.obj b _ hob (by simp) _ _ _ _ hβ
        obtain ⟨hnn, he1, _⟩ := hrel
        obtain ⟨he, hz⟩ := sat_t hs
        have he := beq_eq he
        subst he he1
        refine Out.same hr ?_ hz
        simp only [AV.val, AV.leaf]
        exact ⟨blk, _, rc, nn, hβ, by simp; omega⟩
      | map es => exact hs.elim
      | gone => exact hs.elim
  · exact hs.elim

theorem op_iaA {t el : TypeId} {n : Nat} {x i : Opd} {x' i' : Operand} (hx : chkOpd X.G x x' = true) (hi : chkOpd X.G i i' = true) (ht : X.P.underlying t = some (.array n el)) (hsz : (X.P.info? el).map (·.size) = some 1) :
    OpS0 X (.indexAddr t x' i') (.iaA n x i) := by
  intro o ho e H w fr a Q k hr hf hs
  have hxv := chkOpd_val hr hf hx
  have hiv := chkOpd_val hr hf hi
  simp only [opT, evK_eq] at hs
  obtain ⟨j, m, hin, hs⟩ := sat_intK hs
  rw [hin] at hiv
  have ei := val_int hiv
  have run {ad : Addr} (hc : a.eval x' = .pointer (some ad)) (h0 : 0 ≤ m) (h1 : m < n) : (execOp a.eval o).run X.P w = .ok (.value (.pointer (some (ad.add m.toNat)))) w := by
    simp only [execOp, ho]
    refine run_v ?_
    rw [hc, ei]
    simp only [Instr.indexAt, asIntOf, Sem.run_bind, Sem.run_pure, Result.andThen, run_under ht, Instr.sureAddr]
    simp only [h0, h1, and_self, if_true, Sem.run_bind, run_sizeOf hsz, Result.andThen, Nat.mul_one]
    rfl
  unfold iaAK at hs
  split at hs
  · rename_i b i2 o' p hxa
    rw [hxa] at hxv
    simp only [sat] at hs
    obtain ⟨hb, hs⟩ := hs
    have hb := of_decide_eq_true hb
    simp only [AV.val, AV.leaf] at hxv
    obtain ⟨blk, esz, rc, nn, hβ, hc⟩ := hxv
    have hc : a.eval x' = .pointer (some ⟨blk, i2 * esz + o', none⟩) := by simpa using hc
    rw [run hc hb.1 hb.2, add_off]
    refine Out.same hr ?_ hs
    simp only [AV.val, AV.leaf]
    exact ⟨blk, esz, rc, nn, hβ, by simp⟩
  · rename_i m' xs hxa
    rw [hxa] at hxv
    split at hs
    · rename_i hmn
      have hmn := beq_eq hmn
      have hz := hs
      subst hmn
      simp only [sat] at hz
      obtain ⟨y, h0, hy, hz⟩ := hz
      have hlt := lt_of_get hy
      simp only [AV.val, AV.leaf, Tr.rel] at hxv
      obtain ⟨ad, mem, mid, hc, hsp, hm, hsub, hlen, hones⟩ := hxv
      obtain ⟨c, hci, hna, hyr⟩ := Tr.ones_get hones hy
      have hc : a.eval x' = .pointer (some ⟨ad.block, ad.off, none⟩) := by rw [← addr_eta hsp]; simpa using hc
      rw [run hc h0 (by omega), add_off]
      refine Out.same hr ?_ hz
      simp only [AV.val, AV.leaf]
      exact ⟨_, mem, [c], rfl, rfl, hm, hsub.trans (Sub.one hci), hyr⟩
    · exact hs.elim
  · exact hs.elim

/-- An element of an array of structs. -/
theorem op_iaC {t el : TypeId} {n esz : Nat} {x i : Opd} {x' i' : Operand} (hx : chkOpd X.G x x' = true) (hi : chkOpd X.G i i' = true) (ht : X.P.underlying t = some (.array n el)) (hsz : (X.P.info? el).map (·.size) = some esz) :
    OpS0 X (.indexAddr t x' i') (.iaC n esz x i) := by
  intro o ho e H w fr a Q k hr hf hs
  have hxv := chkOpd_val hr hf hx
  have hiv := chkOpd_val hr hf hi
  simp only [opT, evK_eq] at hs
  obtain ⟨j, m, hin, hs⟩ := sat_intK hs
  rw [hin] at hiv
  have ei := val_int hiv
  have run {ad : Addr} (hc : a.eval x' = .pointer (some ad)) (h0 : 0 ≤ m) (h1 : m < n) : (execOp a.eval o).run X.P w = .ok (.value (.pointer (some (ad.add (m.toNat * esz))))) w := by
    simp only [execOp, ho]
    refine run_v ?_
    rw [hc, ei]
    simp only [Instr.indexAt, asIntOf, Sem.run_bind, Sem.run_pure, Result.andThen, run_under ht, Instr.sureAddr]
    simp only [h0, h1, and_self, if_true, Sem.run_bind, run_sizeOf hsz, Result.andThen]
    rfl
  unfold iaCK at hs
  split at hs
  · rename_i b i2 o' p hxa
    rw [hxa] at hxv
    simp only [sat] at hs
    obtain ⟨hb, hs⟩ := hs
    have hb := of_decide_eq_true hb
    rw [litK_eq, snocK_eq] at hs
    simp only [AV.val, AV.leaf] at hxv
    obtain ⟨blk, esz', rc, nn, hβ, hc⟩ := hxv
    have hc : a.eval x' = .pointer (some ⟨blk, i2 * esz' + o', none⟩) := by simpa using hc
    rw [run hc hb.1 hb.2, add_off]
    refine Out.same hr ?_ hs
    simp only [AV.val, AV.leaf]
    exact ⟨blk, esz', rc, nn, hβ, by simp [Nat.add_assoc]⟩
  · rename_i xs hxa
    rw [hxa] at hxv
    simp only [sat] at hs
    obtain ⟨hb, hs⟩ := hs
    have hb := of_decide_eq_true hb
    rw [litK_eq] at hs
    simp only [AV.val, AV.leaf] at hxv
    obtain ⟨ad, mem, mid, hc, hsp, hm, hsub, hrel⟩ := hxv
    obtain ⟨y, d, hp, hs⟩ := sat_getT hs
    simp only [Nat.zero_add] at hs
    obtain ⟨my, hsy, hry, _⟩ := path_sound (y := .nilp) hp hrel
    split at hs
    · rename_i hd
      have hd := beq_eq hd
      have hc : a.eval x' = .pointer (some ⟨ad.block, ad.off, none⟩) := by rw [← addr_eta hsp]; simpa using hc
      rw [run hc hb.1 hb.2, add_off, ← hd]
      refine Out.same hr ?_ hs
      simp only [AV.val, AV.leaf]
      exact ⟨_, mem, my, rfl, rfl, hm, hsub.trans hsy, hry⟩
    · exact hs.elim
  · exact hs.elim

theorem op_ixA {t el : TypeId} {n : Nat} {x i : Opd} {x' i' : Operand} (hx : chkOpd X.G x x' = true) (hi : chkOpd X.G i i' = true) (ht : X.P.underlying t = some (.array n el)) (hty : tyOK X.P el false 1 = true) :
    OpS0 X (.index t x' i') (.ixA n x i) := by
  intro o ho e H w fr a Q k hr hf hs
  have hxv := chkOpd_val hr hf hx
  have hiv := chkOpd_val hr hf hi
  simp only [opT, evK_eq] at hs
  obtain ⟨j, m, hin, hs⟩ := sat_intK hs
  rw [hin] at hiv
  have ei := val_int hiv
  unfold ixAK at hs
  split at hs
  · rename_i m' xs hxa
    rw [hxa] at hxv
    split at hs
    · rename_i hmn
      have hmn := beq_eq hmn
      have hz := hs
      subst hmn
      simp only [sat] at hz
      obtain ⟨y, h0, hy, hz⟩ := hz
      have hlt := lt_of_get hy
      simp only [AV.val, Tr.isAgg, Tr.rel] at hxv
      obtain ⟨cs, hc, hlen, hones⟩ := hxv
      obtain ⟨c, hci, hna, hyr⟩ := Tr.ones_get hones hy
      have hci : cs[m.toNat]? = some c := by simpa using hci
      obtain ⟨h1, h2⟩ := tyOK_run hty w
      have : (execOp a.eval o).run X.P w = .ok (.value c) w := by
        simp only [execOp, ho]
        refine run_v ?_
        rw [hc, ei]
        simp only [Instr.index, asIntOf, Sem.run_bind, Sem.run_pure, Result.andThen, run_under ht]
        rw [if_pos ⟨h0, by omega⟩]
        simp only [part, Sem.run_bind, h1, h2, Result.andThen, Nat.mul_one]
        simp [hci]
      rw [this]
      exact Out.same hr (by simp only [AV.val, hna]; exact hyr) hz
    · exact hs.elim
  · exact hs.elim

theorem op_ixS {t : TypeId} {x i : Opd} {x' i' : Operand} (hx : chkOpd X.G x x' = true) (hi : chkOpd X.G i i' = true) (ht : X.P.underlying t = some .string) {op : Op} (hop : op = .index t x' i') :
    OpS0 X op (.ixS x i) := by
  intro o ho e H w fr a Q k hr hf hs
  have hxv := chkOpd_val hr hf hx
  have hiv := chkOpd_val hr hf hi
  simp only [opT, evK_eq] at hs
  obtain ⟨j, m, hin, hs⟩ := sat_intK hs
  rw [hin] at hiv
  have ei := val_int hiv
  unfold ixSK at hs
  split at hs
  · rename_i s hxa
    rw [hxa] at hxv
    have ex := val_str hxv
    simp only [sat] at hs
    obtain ⟨hb, hs⟩ := hs
    have hb := of_decide_eq_true hb
    have hlt : m.toNat < s.size := by omega
    have hget : s[m.toNat]? = some (s[m.toNat]) := by simp [hlt]
    have : (execOp a.eval o).run X.P w = .ok (.value (.int .u8 (s.data.toList.getD m.toNat 0).toNat)) w := by
      subst hop
      simp only [execOp, ho]
      refine run_v ?_
      rw [ex, ei]
      simp only [Instr.index, asIntOf, Sem.run_bind, Sem.run_pure, Result.andThen, run_under ht]
      rw [if_pos hb.1, hget]
      simp only [Sem.run_pure]
      congr 3
      rw [List.getD_eq_getElem?_getD, Array.getElem?_toList, Array.getElem?_eq_getElem hlt]
      rfl
    rw [this]
    exact Out.same hr (mk_int _ _ _) hs
  · exact hs.elim

/-! ### Lengths -/
theorem run_call_builtin {o : Oper} {b : Builtin} {args : Array Operand} {ats : Array TypeId} (ho : o.op = .call { callee := .builtin b, args, argTypes := ats }) (ev : Operand → Value) (P : Program) (w : World) :
    (execOp ev o).run P w = (builtin b ats o.type (args.map fun | .const _ => true | _ => false) (args.map ev)).run P w := by
  simp only [execOp, ho, resolve, pure_bind, invoke]
  rfl

theorem op_lenL {t el : TypeId} {x : Opd} {x' : Operand} (hx : chkOpd X.G x x' = true) (ht : X.P.underlying t = some (.slice el)) : OpS0 X (.call { callee := .builtin .len, args := #[x'], argTypes := #[t] }) (.lenL x) := by
  intro o ho e H w fr a Q k hr hf hs
  have hxv := chkOpd_val hr hf hx
  simp only [opT, evK_eq] at hs
  have run {ad : Option Addr} {n c : Nat} (hc : a.eval x' = .slice ad n c) : (execOp a.eval o).run X.P w = .ok (.value (.int .i64 n)) w := by
    rw [run_call_builtin ho]
    simp only [builtin]
    refine run_v ?_
    simp [Builtin.len_, hc, Sem.run_bind, run_under ht, Result.andThen, goInt]
  split at hs
  · rename_i hxa; rw [hxa] at hxv; simp only [AV.val, Tr.isAgg, Tr.rel] at hxv
    obtain ⟨base, cap, hc, _⟩ := hxv
    rw [run (by simpa using hc)]; exact Out.same hr (mk_int _ _ _) hs
  · rename_i hxa; rw [hxa] at hxv; simp only [AV.val, AV.leaf] at hxv
    obtain ⟨base, cap, hc, _⟩ := hxv
    rw [run (by simpa using hc)]; exact Out.same hr (mk_int _ _ _) hs
  · rename_i hxa; rw [hxa] at hxv; simp only [AV.val, AV.leaf] at hxv
    rcases hxv with ⟨_, _, _, _, rfl, _, base, hc⟩ | ⟨_, _, _, _, base, c, _, hc, _⟩
    · rw [run (by simpa using hc)]; exact Out.same hr (mk_int _ _ _) hs
    · rw [run (by simpa using hc)]; exact Out.same hr (mk_int _ _ _) hs
  · exact hs.elim

theorem op_lenS {t : TypeId} {x : Opd} {x' : Operand} (hx : chkOpd X.G x x' = true) (ht : X.P.underlying t = some .string) : OpS0 X (.call { callee := .builtin .len, args := #[x'], argTypes := #[t] }) (.lenS x) := by
  intro o ho e H w fr a Q k hr hf hs
  have hxv := chkOpd_val hr hf hx
  simp only [opT, evK_eq] at hs
  split at hs
  · rename_i s hxa; rw [hxa] at hxv
    have : (execOp a.eval o).run X.P w = .ok (.value (.int .i64 s.size)) w := by
      rw [run_call_builtin ho]
      simp only [builtin]
      refine run_v ?_
      simp [Builtin.len_, val_str hxv, Sem.run_bind, run_under ht, Result.andThen, goInt]
    rw [this]; exact Out.same hr (mk_int _ _ _) hs
  · exact hs.elim

theorem op_lenM {t q u : TypeId} {x : Opd} {x' : Operand} (hx : chkOpd X.G x x' = true) (ht : X.P.underlying t = some (.map q u)) : OpS0 X (.call { callee := .builtin .len, args := #[x'], argTypes := #[t] }) (.lenM x) := by
  intro o ho e H w fr a Q k hr hf hs
  have hxv := chkOpd_val hr hf hx
  simp only [opT, evK_eq] at hs
  split at hs
  · rename_i hxa; rw [hxa] at hxv; simp only [AV.val, Tr.isAgg, Tr.rel] at hxv
    have : (execOp a.eval o).run X.P w = .ok (.value (.int .i64 0)) w := by
      rw [run_call_builtin ho]
      simp only [builtin]
      refine run_v ?_
      simp at hxv
      simp [Builtin.len_, hxv, Sem.run_bind, run_under ht, Result.andThen, goInt]
    rw [this]; exact Out.same hr (mk_int _ _ _) hs
  · rename_i b hxa; rw [hxa] at hxv; simp only [AV.val, AV.leaf] at hxv
    obtain ⟨blk, esz, rc, n, hβ, hc⟩ := hxv
    obtain ⟨ob, hob, hs⟩ := sat_nthK hs
    split at hs
    · rename_i es
      obtain ⟨oo, hoo, hrel⟩ := hr.obj b _ hob (by simp) _ _ _ _ hβ
      obtain ⟨_, ents, clock, rfl, hm⟩ := hrel
      have hlen : es.length = ents.size := by
        rw [← Array.length_toList]
        have : ∀ (es : List (Tr × Tr)) (l : List MapEntry), mapRel e.ro es l → es.length = l.length := by
          intro es
          induction es with
          | nil => intro l h; simp only [mapRel] at h; simp [h]
          | cons x r ih =>
            intro l h
            simp only [mapRel] at h
            obtain ⟨me, es', rfl, _, _, h⟩ := h
            simp [ih _ h]
        exact this _ _ hm
      have : (execOp a.eval o).run X.P w = .ok (.value (.int .i64 es.length)) w := by
        rw [run_call_builtin ho]
        simp only [builtin]
        refine run_v ?_
        simp at hc
        simp [Builtin.len_, hc, Sem.run_bind, run_under ht, Result.andThen, goInt, getObj, Sem.run, hoo, hlen]
      rw [this]; exact Out.same hr (mk_int _ _ _) hs
    · exact hs.elim
  · exact hs.elim

theorem op_lenA {t u : TypeId} {n : Nat} {x' : Operand} (h : X.P.underlying t = some (.array n u) ∨ ∃ q, X.P.underlying t = some (.pointer q) ∧ X.P.underlying q = some (.array n u)) :
    OpS0 X (.call { callee := .builtin .len, args := #[x'], argTypes := #[t] }) (.lenA n) := by
  intro o ho e H w fr a Q k hr hf hs
  simp only [opT] at hs
  have : (execOp a.eval o).run X.P w = .ok (.value (.int .i64 n)) w := by
    rw [run_call_builtin ho]
    simp only [builtin]
    refine run_v ?_
    rcases h with h | ⟨q, h1, h2⟩
    · simp [Builtin.len_, Sem.run_bind, run_under h, Result.andThen, goInt]
    · simp [Builtin.len_, Sem.run_bind, run_under h1, run_under h2, Result.andThen, goInt]
  rw [this]; exact Out.same hr (mk_int _ _ _) hs
end Stk
