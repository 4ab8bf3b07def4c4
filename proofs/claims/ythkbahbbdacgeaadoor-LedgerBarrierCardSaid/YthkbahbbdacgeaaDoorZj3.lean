/- Several texts of this claim, joined into one file. -/
import Derived.Test.YthkbahbbdacgeaaDoorZj2
import Derived.Deep.AppendSrc
import Derived.Deep.Upon
import Derived.Laws.IdiomStrings
import Derived.Laws.BytesString
import Derived.Laws.MakeOwn
section
/- The framework, part 7: addresses, parts, cuts, lengths. -/
namespace Stk
open Go
variable {X : Cx} {Q : Ex → Fr → Hp → Prop} {e : Env} {H : Hp} {w : World}

def chkOpds (G : Gl) : List Opd → List Operand → Bool
  | [], [] => true
  | x :: xs, y :: ys => chkOpd G x y && chkOpds G xs ys
  | _, _ => false
theorem chkOpds_vals {fr : Fr} {a : Act} (hr : Rel X.G e H w) (hf : FrR X.N e fr a) : ∀ {xs : List Opd} {ys : List Operand}, chkOpds X.G xs ys = true → AV.vals e (xs.map (·.at fr)) (ys.map a.eval)
  | [], [], _ => by simp [AV.vals]
  | [], _ :: _, h => by simp [chkOpds] at h
  | _ :: _, [], h => by simp [chkOpds] at h
  | x :: xs, y :: ys, h => by
    simp only [chkOpds, Bool.and_eq_true] at h
    simp only [List.map_cons, AV.vals]
    exact ⟨_, _, rfl, chkOpd_val hr hf h.1, chkOpds_vals hr hf h.2⟩

theorem op_mkfn {f : FuncId} {xs ys : List Opd} {xs' ys' : Array Operand} (h1 : chkOpds X.G xs xs'.toList = true) (h2 : chkOpds X.G ys ys'.toList = true) : OpS0 X (.makeFunc (.func f) xs' ys') (.mkfn f xs ys) := by
  intro o ho e H w fr a Q k hr hf hs
  have hx := chkOpds_vals hr hf h1
  have hy := chkOpds_vals hr hf h2
  simp only [opT, evsK_eq] at hs
  have : (execOp a.eval o).run X.P w = .ok (.value (.func (.func f) (xs'.map a.eval) (ys'.map a.eval))) w := by
    simp only [execOp, ho]; exact run_v (by simp [Instr.makeFunc])
  rw [this]
  refine Out.same hr ?_ hs
  simp only [AV.val]
  exact ⟨_, _, rfl, by simpa using hx, by simpa using hy⟩

theorem op_mkmap {t : TypeId} : OpS X (.makeMap t none) .mkmap := by
  intro o ho e H w fr a Q k hr hf hs
  simp only [opT, newK_eq] at hs
  have : (execOp a.eval o).run X.P w = .ok (.value (.map (some w.heap.size))) (w.alloc (.map #[] 0)) := by
    simp only [execOp, ho]
    refine run_v ?_
    simp [Instr.makeMap, newObj, bind, Sem.bind, Sem.run, pure]
  rw [this]
  have hst := Step.new (o := .map []) (ob := .map #[] 0) (esz := 0) (cap := 0) (n := none) hr ⟨rfl, #[], 0, rfl, by simp [mapRel], by simp [Births]⟩
  refine ⟨_, _, _, _, _, .inl rfl, ?_, hst, hs⟩
  simp only [AV.val, AV.leaf]
  exact ⟨_, _, _, _, e.bind_same _ _, rfl⟩

theorem add_off (b o n : Nat) : (⟨b, o, none⟩ : Addr).add n = ⟨b, o + n, none⟩ := by unfold Addr.add; split <;> simp_all

/-- A struct's field: where it lies, its type. -/
def fldOf (P : Program) (s : TypeId) (f : Nat) : Option Field :=
  match P.underlying s with
  | some (.struct fs) => fs[f]?
  | _ => none
theorem fldOf_some {P : Program} {s : TypeId} {f : Nat} {fl : Field} (h : fldOf P s f = some fl) : ∃ fs, P.underlying s = some (.struct fs) ∧ fs[f]? = some fl := by
  unfold fldOf at h
  split at h
  · rename_i fs hu; exact ⟨fs, hu, h⟩
  · cases h
def szOf (P : Program) (t : TypeId) : Nat := ((P.info? t).map (·.size)).getD 0
theorem run_sizeOf {P : Program} {t : TypeId} {n : Nat} (h : (P.info? t).map (·.size) = some n) (w : World) : (Go.sizeOf t).run P w = .ok n w := by
  cases hi : P.info? t with
  | none => rw [hi] at h; cases h
  | some i => rw [hi] at h; simp at h; simp [Go.sizeOf, typeInfo, program, bind, Sem.bind, Sem.run, hi, pure, h]

theorem op_fa {s : TypeId} {f off n : Nat} {x : Opd} {x' : Operand} {fl : Field} (hx : chkOpd X.G x x' = true) (hfl : fldOf X.P s f = some fl) (hoff : fl.offset = off) (hn : (X.P.info? fl.type).map (·.size) = some (n + 1)) :
    OpS0 X (.fieldAddr s x' f) (.fa off f x) := by
  intro o ho e H w fr a Q k hr hf hs
  have hxv := chkOpd_val hr hf hx
  simp only [opT, evK_eq] at hs
  obtain ⟨fs, hu, hget⟩ := fldOf_some hfl
  have run (b i : Nat) (hc : a.eval x' = .pointer (some ⟨b, i, none⟩)) : (execOp a.eval o).run X.P w = .ok (.value (.pointer (some ⟨b, i + off, none⟩))) w := by
    simp only [execOp, ho]
    refine run_v ?_
    simp only [Instr.fieldAt, Sem.run_bind, run_under hu, Result.andThen, hget, hc, Instr.sureAddr]
    simp [fieldPlace, run_sizeOf hn, Result.andThen, add_off, hoff]
  unfold faK at hs
  split at hs
  · rename_i b i o' p hxa
    rw [hxa] at hxv
    rw [snocK_eq] at hs
    simp only [AV.val, AV.leaf] at hxv
    obtain ⟨blk, esz, rc, nn, hβ, hc⟩ := hxv
    have hc : a.eval x' = .pointer (some ⟨blk, i * esz + o', none⟩) := by simpa using hc
    rw [run _ _ hc]
    refine Out.same hr ?_ hs
    simp only [AV.val, AV.leaf]
    exact ⟨blk, esz, rc, nn, hβ, by simp [Nat.add_assoc]⟩
  · rename_i xs hxa
    rw [hxa] at hxv
    simp only [AV.val, AV.leaf] at hxv
    obtain ⟨ad, mem, mid, hc, hsp, hm, hsub, hrel⟩ := hxv
    obtain ⟨y, d, hp, hs⟩ := sat_getT hs
    simp only [Nat.zero_add] at hs
    obtain ⟨my, hsy, hry, _⟩ := path_sound (y := .nilp) hp hrel
    split at hs
    · rename_i hd
      have hd := beq_eq hd
      have hc : a.eval x' = .pointer (some ⟨ad.block, ad.off, none⟩) := by rw [← addr_eta hsp]; simpa using hc
      rw [run _ _ hc, ← hd]
      refine Out.same hr ?_ hs
      simp only [AV.val, AV.leaf]
      exact ⟨_, mem, my, rfl, rfl, hm, hsub.trans hsy, hry⟩
    · exact hs.elim
  · exact hs.elim

/-- An element of an array at a fixed place. -/
theorem op_faC {t el : TypeId} {f off n esz : Nat} {j : IntKind} {m : Int} {x : Opd} {x' : Operand} (hx : chkOpd X.G x x' = true) (ht : X.P.underlying t = some (.array n el)) (hsz : (X.P.info? el).map (·.size) = some esz) (h0 : 0 ≤ m) (h1 : m < n) (hoff : m.toNat * esz = off) :
    OpS0 X (.indexAddr t x' (.const (.int j m))) (.fa off f x) := by
  intro o ho e H w fr a Q k hr hf hs
  have hxv := chkOpd_val hr hf hx
  simp only [opT, evK_eq] at hs
  have run (b i : Nat) (hc : a.eval x' = .pointer (some ⟨b, i, none⟩)) : (execOp a.eval o).run X.P w = .ok (.value (.pointer (some ⟨b, i + off, none⟩))) w := by
    simp only [execOp, ho]
    refine run_v ?_
    rw [hc]
    simp only [Act.eval, Instr.indexAt, asIntOf, Sem.run_bind, Sem.run_pure, Result.andThen, run_under ht, Instr.sureAddr]
    simp only [h0, h1, and_self, if_true, Sem.run_bind, run_sizeOf hsz, Result.andThen, hoff, ← add_off]
    rfl
  unfold faK at hs
  split at hs
  · rename_i b i o' p hxa
    rw [hxa] at hxv
    rw [snocK_eq] at hs
    simp only [AV.val, AV.leaf] at hxv
    obtain ⟨blk, esz, rc, nn, hβ, hc⟩ := hxv
    have hc : a.eval x' = .pointer (some ⟨blk, i * esz + o', none⟩) := by simpa using hc
    rw [run _ _ hc]
    refine Out.same hr ?_ hs
    simp only [AV.val, AV.leaf]
    exact ⟨blk, esz, rc, nn, hβ, by simp [Nat.add_assoc]⟩
  · rename_i xs hxa
    rw [hxa] at hxv
    simp only [AV.val, AV.leaf] at hxv
    obtain ⟨ad, mem, mid, hc, hsp, hm, hsub, hrel⟩ := hxv
    obtain ⟨y, d, hp, hs⟩ := sat_getT hs
    simp only [Nat.zero_add] at hs
    obtain ⟨my, hsy, hry, _⟩ := path_sound (y := .nilp) hp hrel
    split at hs
    · rename_i hd
      have hd := beq_eq hd
      have hc : a.eval x' = .pointer (some ⟨ad.block, ad.off, none⟩) := by rw [← addr_eta hsp]; simpa using hc
      rw [run _ _ hc, ← hd]
      refine Out.same hr ?_ hs
      simp only [AV.val, AV.leaf]
      exact ⟨_, mem, my, rfl, rfl, hm, hsub.trans hsy, hry⟩
    · exact hs.elim
  · exact hs.elim

theorem sat_t {b : Bool} {K : T} {s : String} (h : sat X Q (match b with
    | true => K
    | false => .stuck s)) : b = true ∧ sat X Q K := by
  cases b <;> first | exact h.elim | exact ⟨rfl, h⟩

theorem sat_sized4 {b1 b2 b3 agg : Bool} {K : T} {s : String} (h : sat X Q (match b1, b2, b3, agg with
    | true, true, true, true | true, true, false, false => K
    | _, _, _, _ => .stuck s)) : b1 = true ∧ b2 = true ∧ b3 = agg ∧ sat X Q K := by
  cases b1 <;> cases b2 <;> cases b3 <;> cases agg <;> first | exact h.elim | exact ⟨rfl, rfl, rfl, h⟩

theorem op_fld {s : TypeId} {f off n : Nat} {agg : Bool} {x : Opd} {x' : Operand} {fl : Field} (hx : chkOpd X.G x x' = true) (hfl : fldOf X.P s f = some fl) (hoff : fl.offset = off) (ht : tyOK X.P fl.type agg n = true) :
    OpS0 X (.field s x' f) (.fld agg off n f x) := by
  intro o ho e H w fr a Q k hr hf hs
  have hxv := chkOpd_val hr hf hx
  simp only [opT, evK_eq, fldK] at hs
  obtain ⟨fs, hu, hget⟩ := fldOf_some hfl
  obtain ⟨y, d, hp, hs⟩ := sat_getA hs
  simp only [Nat.zero_add] at hs
  -- the value is an aggregate
  have hag : ∃ cs, a.eval x' = .agg cs ∧ AV.rel e (x.at fr) cs.toList := by
    simp only [pathA] at hp
    split at hp
    · rename_i vs hvs
      unfold fieldsA at hvs
      split at hvs
      · rename_i hxa; rw [hxa] at hxv ⊢; simp only [AV.val] at hxv; obtain ⟨cs, h1, h2⟩ := hxv; exact ⟨cs, h1, by simpa [AV.rel] using h2⟩
      · rename_i hxa; rw [hxa] at hxv ⊢; simp only [AV.val, Tr.isAgg] at hxv; obtain ⟨cs, h1, h2⟩ := hxv; exact ⟨cs, h1, by simpa [AV.rel, AV.leaf] using h2⟩
      · cases hvs
    · cases hp
  obtain ⟨cs, hc, hrel⟩ := hag
  obtain ⟨mid, hsub, hry, _⟩ := pathA_sound (y := .undef) hp hrel
  have key : d = off ∧ y.sz = n ∧ y.isAgg = agg ∧ sat X Q (k y H) := by
    obtain ⟨h1, h2, h3, h4⟩ := sat_sized4 hs
    exact ⟨beq_eq h1, beq_eq h2, h3, h4⟩
  obtain ⟨hdo, hsz, hagg, hz⟩ := key
  subst hdo
  obtain ⟨hr1, hr2⟩ := tyOK_run ht w
  have hl := (AV.rel_length hry).1
  have base (c : Value) (h : (part fl.type cs d).run X.P w = .ok c w) : (execOp a.eval o).run X.P w = .ok (.value c) w := by
    simp only [execOp, ho]
    refine run_v ?_
    simp only [Instr.field, Sem.run_bind, run_under hu, Result.andThen, hget, hc, asAgg, hoff]
    simpa using h
  rcases AV.val_of_rel hry with ⟨h1, hval⟩ | ⟨h1, c, rfl, hval⟩
  · rw [h1] at hagg; subst hagg
    rw [base (.agg mid.toArray) (by
      simp only [part, Sem.run_bind, hr1, Result.andThen, if_true, hr2]
      have : cs.extract d (d + n) = mid.toArray := by
        apply Array.ext'
        rw [Array.toList_extract]
        simp only [List.extract_eq_take_drop]
        have := hsub.eq
        rw [show d + n - d = mid.length from by omega]; simpa using this
      rw [this]; rfl)]
    exact Out.same hr hval hz
  · rw [h1] at hagg; subst hagg
    rw [base c (by
      simp only [part, Sem.run_bind, hr1, Result.andThen]
      have := hsub.get (j := 0) rfl
      have : cs[d]? = some c := by simpa using this
      simp [this])]
    exact Out.same hr hval hz

theorem op_ext {x : Opd} {x' : Operand} {i : Nat} (hx : chkOpd X.G x x' = true) : OpS0 X (.extract x' i) (.ext x i) := by
  intro o ho e H w fr a Q k hr hf hs
  have hxv := chkOpd_val hr hf hx
  simp only [opT, evK_eq] at hs
  split at hs
  · rename_i vs hxa
    rw [hxa] at hxv
    obtain ⟨v, hv, hs⟩ := sat_nthK hs
    simp only [AV.val] at hxv
    obtain ⟨cs, hc, hvs⟩ := hxv
    have : ∀ (vs : List AV) (cs : List Value) (i : Nat) (v : AV), AV.vals e vs cs → vs[i]? = some v → ∃ c, cs[i]? = some c ∧ AV.val e v c := by
      intro vs
      induction vs with
      | nil => intro cs i v _ h; simp at h
      | cons u us ih =>
        intro cs i v h hi
        simp only [AV.vals] at h
        obtain ⟨c, b, rfl, h1, h2⟩ := h
        cases i with
        | zero => simp at hi; subst hi; exact ⟨c, rfl, h1⟩
        | succ i => obtain ⟨c', h3, h4⟩ := ih b i v h2 (by simpa using hi); exact ⟨c', by simpa using h3, h4⟩
    obtain ⟨c, hci, hval⟩ := this vs cs.toList i v hvs hv
    have hci : cs[i]? = some c := by simpa using hci
    have : (execOp a.eval o).run X.P w = .ok (.value c) w := by
      simp only [execOp, ho]
      refine run_v ?_
      simp [Instr.extract, hc, hci]
    rw [this]
    exact Out.same hr hval hs
  · exact hs.elim

theorem sat_intK {v : AV} {k : Int → T} (h : sat X Q (intK v k)) : ∃ j n, v = .t (.int j n) ∧ sat X Q (k n) := by
  unfold intK at h
  split at h
  · exact ⟨_, _, rfl, h⟩
  · exact h.elim

theorem op_ia {t el : TypeId} {esz : Nat} {x i : Opd} {x' i' : Operand} (hx : chkOpd X.G x x' = true) (hi : chkOpd X.G i i' = true) (ht : X.P.underlying t = some (.slice el)) (hsz : (X.P.info? el).map (·.size) = some esz) :
    OpS0 X (.indexAddr t x' i') (.ia esz x i) := by
  intro o ho e H w fr a Q k hr hf hs
  have hxv := chkOpd_val hr hf hx
  have hiv := chkOpd_val hr hf hi
  simp only [opT, evK_eq] at hs
  obtain ⟨j, n, hin, hs⟩ := sat_intK hs
  rw [hin] at hiv
  have ei := val_int hiv
  have run {ad : Addr} {len cap : Nat} (hc : a.eval x' = .slice (some ad) len cap) (h0 : 0 ≤ n) (h1 : n < len) : (execOp a.eval o).run X.P w = .ok (.value (.pointer (some (ad.add (n.toNat * esz))))) w := by
    simp only [execOp, ho]
    refine run_v ?_
    rw [hc, ei]
    simp only [Instr.indexAt, asIntOf, Sem.run_bind, Sem.run_pure, Result.andThen, run_under ht]
    simp only [h0, h1, and_self, if_true, Sem.run_bind, run_sizeOf hsz, Result.andThen]
    rfl
  have ro {xs : List Tr} {base : Option Addr} {cap : Nat} (hc : a.eval x' = .slice base xs.length cap)
      (hh : xs = [] ∨ ∃ ad mem mid, base = some ad ∧ ad.spot = none ∧ e.holds ad.block mem ∧ Sub mem ad.off mid ∧ Tr.row e.ro esz xs mid)
      (hs : sat X Q (.idx xs n fun y => k (.vp y) H)) : Out0 X e H w Q k ((execOp a.eval o).run X.P w) := by
    simp only [sat] at hs
    obtain ⟨y, h0, hy, hs⟩ := hs
    have hlt := lt_of_get hy
    rcases hh with rfl | ⟨ad, mem, mid, rfl, hsp, hm, hsub, hrow⟩
    · simp at hy
    · obtain ⟨my, hsy, _, hry⟩ := Tr.row_get hrow hy
      rw [run hc h0 (by omega)]
      refine Out.same hr ?_ hs
      simp only [AV.val, AV.leaf]
      have e1 : ad.add (n.toNat * esz) = ⟨ad.block, ad.off + n.toNat * esz, none⟩ := by
        have := add_off ad.block ad.off (n.toNat * esz)
        rw [← addr_eta hsp] at this; exact this
      rw [e1]
      exact ⟨_, mem, my, rfl, rfl, hm, hsub.trans hsy, hry⟩
  unfold iaK at hs
  split at hs
  · rename_i f e' xs hxa
    rw [hxa] at hxv
    simp only [AV.val, Tr.isAgg, Tr.rel] at hxv
    obtain ⟨base, cap, hc, _, _, hh⟩ := hxv
    split at hs
    · rename_i he; have he := beq_eq he; have hz := hs; subst he
      exact ro (by simpa using hc) (hh.imp id fun ⟨ad, mem, mid, h1, h2, h3, h4, h5⟩ => ⟨ad, mem, mid, h1, h2, .inl h3, h4, h5⟩) hz
    · exact hs.elim
  · rename_i e' xs hxa
    rw [hxa] at hxv
    simp only [AV.val, AV.leaf] at hxv
    obtain ⟨base, cap, hc, _, hh⟩ := hxv
    split at hs
    · rename_i he; have he := beq_eq he; have hz := hs; subst he
      exact ro (by simpa using hc) hh hz
    · exact hs.elim
  · rename_i b o' p off len cap hxa
    rw [hxa] at hxv
    simp only [sat] at hs
    obtain ⟨hb, hs⟩ := hs
    have hb := of_decide_eq_true hb
    obtain ⟨ob, hob, hs⟩ := sat_nthK hs
    simp only [AV.val, AV.leaf] at hxv
    rcases hxv with ⟨_, _, _, _, rfl, _, _⟩ | ⟨blk, esz', rc, nn, base, c, hβ, hc, hle, hin', hcap, hbase⟩
    · omega
    · have hbase : base = some ⟨blk, o' + off * esz', none⟩ := by
        rcases hbase with h | h
        · omega
        · exact h
      subst hbase
      have hc : a.eval x' = .slice (some ⟨blk, o' + off * esz', none⟩) len c := by simpa using hc
      rw [run hc hb.1 hb.2, add_off]
      cases ob with
      | row e' xs =>
        obtain ⟨oo, hoo, hrel⟩ := hr.obj b _ hob (by simp) _ _ _ _ hβ
        obtain ⟨rfl, hnn, _⟩ := hrel
        obtain ⟨_, rfl, _⟩ := hin' _ hnn
        obtain ⟨he, hz⟩ := sat_t hs
        have he := beq_eq he
        subst he
        refine Out.same hr ?_ hz
        simp only [AV.val, AV.leaf]
        exact ⟨blk, _, rc, nn, hβ, by simp [Nat.add_mul]⟩
      | var vv =>
        obtain ⟨oo, hoo, hrel⟩ := hr.obj b _ hob (by simp) _ _ _ _ hβ
        obtain ⟨hnn, he1, _⟩ := hrel
        obtain ⟨he, hz⟩ := sat_t hs
        have he := beq_eq he
        subst he he1
        refine Out.same hr ?_ hz
        simp only [AV.val, AV.leaf]
        exact ⟨blk, _, rc, nn, hβ, by simp; omega⟩
      | map es => exact hs.elim
      | gone => exact hs.elim
      | mapI es i => exact hs.elim
      | iter m es left last => exact hs.elim
      | dr e' ms h' =>
        obtain ⟨oo, hoo, hrel⟩ := hr.obj b _ hob (by simp) _ _ _ _ hβ
        obtain ⟨rfl, hnn, _⟩ := hrel
        obtain ⟨_, rfl, _⟩ := hin' _ hnn
        obtain ⟨he, hz⟩ := sat_t hs
        have he := beq_eq he
        subst he
        refine Out.same hr ?_ hz
        simp only [AV.val, AV.leaf]
        exact ⟨blk, _, rc, nn, hβ, by simp [Nat.add_mul]⟩
  · exact hs.elim

theorem op_iaA {t el : TypeId} {n : Nat} {x i : Opd} {x' i' : Operand} (hx : chkOpd X.G x x' = true) (hi : chkOpd X.G i i' = true) (ht : X.P.underlying t = some (.array n el)) (hsz : (X.P.info? el).map (·.size) = some 1) :
    OpS0 X (.indexAddr t x' i') (.iaA n x i) := by
  intro o ho e H w fr a Q k hr hf hs
  have hxv := chkOpd_val hr hf hx
  have hiv := chkOpd_val hr hf hi
  simp only [opT, evK_eq] at hs
  obtain ⟨j, m, hin, hs⟩ := sat_intK hs
  rw [hin] at hiv
  have ei := val_int hiv
  have run {ad : Addr} (hc : a.eval x' = .pointer (some ad)) (h0 : 0 ≤ m) (h1 : m < n) : (execOp a.eval o).run X.P w = .ok (.value (.pointer (some (ad.add m.toNat)))) w := by
    simp only [execOp, ho]
    refine run_v ?_
    rw [hc, ei]
    simp only [Instr.indexAt, asIntOf, Sem.run_bind, Sem.run_pure, Result.andThen, run_under ht, Instr.sureAddr]
    simp only [h0, h1, and_self, if_true, Sem.run_bind, run_sizeOf hsz, Result.andThen, Nat.mul_one]
    rfl
  unfold iaAK at hs
  split at hs
  · rename_i b i2 o' p hxa
    rw [hxa] at hxv
    simp only [sat] at hs
    obtain ⟨hb, hs⟩ := hs
    have hb := of_decide_eq_true hb
    simp only [AV.val, AV.leaf] at hxv
    obtain ⟨blk, esz, rc, nn, hβ, hc⟩ := hxv
    have hc : a.eval x' = .pointer (some ⟨blk, i2 * esz + o', none⟩) := by simpa using hc
    rw [run hc hb.1 hb.2, add_off]
    refine Out.same hr ?_ hs
    simp only [AV.val, AV.leaf]
    exact ⟨blk, esz, rc, nn, hβ, by simp⟩
  · rename_i m' xs hxa
    rw [hxa] at hxv
    split at hs
    · rename_i hmn
      have hmn := beq_eq hmn
      have hz := hs
      subst hmn
      simp only [sat] at hz
      obtain ⟨y, h0, hy, hz⟩ := hz
      have hlt := lt_of_get hy
      simp only [AV.val, AV.leaf, Tr.rel] at hxv
      obtain ⟨ad, mem, mid, hc, hsp, hm, hsub, hlen, hones⟩ := hxv
      obtain ⟨c, hci, hna, hyr⟩ := Tr.ones_get hones hy
      have hc : a.eval x' = .pointer (some ⟨ad.block, ad.off, none⟩) := by rw [← addr_eta hsp]; simpa using hc
      rw [run hc h0 (by omega), add_off]
      refine Out.same hr ?_ hz
      simp only [AV.val, AV.leaf]
      exact ⟨_, mem, [c], rfl, rfl, hm, hsub.trans (Sub.one hci), hyr⟩
    · exact hs.elim
  · exact hs.elim

/-- An element of an array of structs. -/
theorem op_iaC {t el : TypeId} {n esz : Nat} {x i : Opd} {x' i' : Operand} (hx : chkOpd X.G x x' = true) (hi : chkOpd X.G i i' = true) (ht : X.P.underlying t = some (.array n el)) (hsz : (X.P.info? el).map (·.size) = some esz) :
    OpS0 X (.indexAddr t x' i') (.iaC n esz x i) := by
  intro o ho e H w fr a Q k hr hf hs
  have hxv := chkOpd_val hr hf hx
  have hiv := chkOpd_val hr hf hi
  simp only [opT, evK_eq] at hs
  obtain ⟨j, m, hin, hs⟩ := sat_intK hs
  rw [hin] at hiv
  have ei := val_int hiv
  have run {ad : Addr} (hc : a.eval x' = .pointer (some ad)) (h0 : 0 ≤ m) (h1 : m < n) : (execOp a.eval o).run X.P w = .ok (.value (.pointer (some (ad.add (m.toNat * esz))))) w := by
    simp only [execOp, ho]
    refine run_v ?_
    rw [hc, ei]
    simp only [Instr.indexAt, asIntOf, Sem.run_bind, Sem.run_pure, Result.andThen, run_under ht, Instr.sureAddr]
    simp only [h0, h1, and_self, if_true, Sem.run_bind, run_sizeOf hsz, Result.andThen]
    rfl
  unfold iaCK at hs
  split at hs
  · rename_i b i2 o' p hxa
    rw [hxa] at hxv
    simp only [sat] at hs
    obtain ⟨hb, hs⟩ := hs
    have hb := of_decide_eq_true hb
    rw [litK_eq, snocK_eq] at hs
    simp only [AV.val, AV.leaf] at hxv
    obtain ⟨blk, esz', rc, nn, hβ, hc⟩ := hxv
    have hc : a.eval x' = .pointer (some ⟨blk, i2 * esz' + o', none⟩) := by simpa using hc
    rw [run hc hb.1 hb.2, add_off]
    refine Out.same hr ?_ hs
    simp only [AV.val, AV.leaf]
    exact ⟨blk, esz', rc, nn, hβ, by simp [Nat.add_assoc]⟩
  · rename_i xs hxa
    rw [hxa] at hxv
    simp only [sat] at hs
    obtain ⟨hb, hs⟩ := hs
    have hb := of_decide_eq_true hb
    rw [litK_eq] at hs
    simp only [AV.val, AV.leaf] at hxv
    obtain ⟨ad, mem, mid, hc, hsp, hm, hsub, hrel⟩ := hxv
    obtain ⟨y, d, hp, hs⟩ := sat_getT hs
    simp only [Nat.zero_add] at hs
    obtain ⟨my, hsy, hry, _⟩ := path_sound (y := .nilp) hp hrel
    split at hs
    · rename_i hd
      have hd := beq_eq hd
      have hc : a.eval x' = .pointer (some ⟨ad.block, ad.off, none⟩) := by rw [← addr_eta hsp]; simpa using hc
      rw [run hc hb.1 hb.2, add_off, ← hd]
      refine Out.same hr ?_ hs
      simp only [AV.val, AV.leaf]
      exact ⟨_, mem, my, rfl, rfl, hm, hsub.trans hsy, hry⟩
    · exact hs.elim
  · exact hs.elim

theorem op_ixA {t el : TypeId} {n : Nat} {x i : Opd} {x' i' : Operand} (hx : chkOpd X.G x x' = true) (hi : chkOpd X.G i i' = true) (ht : X.P.underlying t = some (.array n el)) (hty : tyOK X.P el false 1 = true) :
    OpS0 X (.index t x' i') (.ixA n x i) := by
  intro o ho e H w fr a Q k hr hf hs
  have hxv := chkOpd_val hr hf hx
  have hiv := chkOpd_val hr hf hi
  simp only [opT, evK_eq] at hs
  obtain ⟨j, m, hin, hs⟩ := sat_intK hs
  rw [hin] at hiv
  have ei := val_int hiv
  unfold ixAK at hs
  split at hs
  · rename_i m' xs hxa
    rw [hxa] at hxv
    split at hs
    · rename_i hmn
      have hmn := beq_eq hmn
      have hz := hs
      subst hmn
      simp only [sat] at hz
      obtain ⟨y, h0, hy, hz⟩ := hz
      have hlt := lt_of_get hy
      simp only [AV.val, Tr.isAgg, Tr.rel] at hxv
      obtain ⟨cs, hc, hlen, hones⟩ := hxv
      obtain ⟨c, hci, hna, hyr⟩ := Tr.ones_get hones hy
      have hci : cs[m.toNat]? = some c := by simpa using hci
      obtain ⟨h1, h2⟩ := tyOK_run hty w
      have : (execOp a.eval o).run X.P w = .ok (.value c) w := by
        simp only [execOp, ho]
        refine run_v ?_
        rw [hc, ei]
        simp only [Instr.index, asIntOf, Sem.run_bind, Sem.run_pure, Result.andThen, run_under ht]
        rw [if_pos ⟨h0, by omega⟩]
        simp only [part, Sem.run_bind, h1, h2, Result.andThen, Nat.mul_one]
        simp [hci]
      rw [this]
      exact Out.same hr (by simp only [AV.val, hna]; exact hyr) hz
    · exact hs.elim
  · exact hs.elim

theorem op_ixS {t : TypeId} {x i : Opd} {x' i' : Operand} (hx : chkOpd X.G x x' = true) (hi : chkOpd X.G i i' = true) (ht : X.P.underlying t = some .string) {op : Op} (hop : op = .index t x' i') :
    OpS0 X op (.ixS x i) := by
  intro o ho e H w fr a Q k hr hf hs
  have hxv := chkOpd_val hr hf hx
  have hiv := chkOpd_val hr hf hi
  simp only [opT, evK_eq] at hs
  obtain ⟨j, m, hin, hs⟩ := sat_intK hs
  rw [hin] at hiv
  have ei := val_int hiv
  unfold ixSK at hs
  split at hs
  · rename_i s hxa
    rw [hxa] at hxv
    have ex := val_str hxv
    simp only [sat] at hs
    obtain ⟨hb, hs⟩ := hs
    have hb := of_decide_eq_true hb
    have hlt : m.toNat < s.size := by omega
    have hget : s[m.toNat]? = some (s[m.toNat]) := by simp [hlt]
    have : (execOp a.eval o).run X.P w = .ok (.value (.int .u8 (s.data.toList.getD m.toNat 0).toNat)) w := by
      subst hop
      simp only [execOp, ho]
      refine run_v ?_
      rw [ex, ei]
      simp only [Instr.index, asIntOf, Sem.run_bind, Sem.run_pure, Result.andThen, run_under ht]
      rw [if_pos hb.1, hget]
      simp only [Sem.run_pure]
      congr 3
      rw [List.getD_eq_getElem?_getD, Array.getElem?_toList, Array.getElem?_eq_getElem hlt]
      rfl
    rw [this]
    exact Out.same hr (mk_int _ _ _) hs
  · exact hs.elim

/-! ### Lengths -/
theorem run_call_builtin {o : Oper} {b : Builtin} {args : Array Operand} {ats : Array TypeId} (ho : o.op = .call { callee := .builtin b, args, argTypes := ats }) (ev : Operand → Value) (P : Program) (w : World) :
    (execOp ev o).run P w = (builtin b ats o.type (args.map fun | .const _ => true | _ => false) (args.map ev)).run P w := by
  simp only [execOp, ho, resolve, pure_bind, invoke]
  rfl

theorem op_lenL {t el : TypeId} {x : Opd} {x' : Operand} (hx : chkOpd X.G x x' = true) (ht : X.P.underlying t = some (.slice el)) : OpS0 X (.call { callee := .builtin .len, args := #[x'], argTypes := #[t] }) (.lenL x) := by
  intro o ho e H w fr a Q k hr hf hs
  have hxv := chkOpd_val hr hf hx
  simp only [opT, evK_eq] at hs
  have run {ad : Option Addr} {n c : Nat} (hc : a.eval x' = .slice ad n c) : (execOp a.eval o).run X.P w = .ok (.value (.int .i64 n)) w := by
    rw [run_call_builtin ho]
    simp only [builtin]
    refine run_v ?_
    simp [Builtin.len_, hc, Sem.run_bind, run_under ht, Result.andThen, goInt]
  split at hs
  · rename_i hxa; rw [hxa] at hxv; simp only [AV.val, Tr.isAgg, Tr.rel] at hxv
    obtain ⟨base, cap, hc, _⟩ := hxv
    rw [run (by simpa using hc)]; exact Out.same hr (mk_int _ _ _) hs
  · rename_i hxa; rw [hxa] at hxv; simp only [AV.val, AV.leaf] at hxv
    obtain ⟨base, cap, hc, _⟩ := hxv
    rw [run (by simpa using hc)]; exact Out.same hr (mk_int _ _ _) hs
  · rename_i hxa; rw [hxa] at hxv; simp only [AV.val, AV.leaf] at hxv
    rcases hxv with ⟨_, _, _, _, rfl, _, base, hc⟩ | ⟨_, _, _, _, base, c, _, hc, _⟩
    · rw [run (by simpa using hc)]; exact Out.same hr (mk_int _ _ _) hs
    · rw [run (by simpa using hc)]; exact Out.same hr (mk_int _ _ _) hs
  · exact hs.elim

theorem op_lenS {t : TypeId} {x : Opd} {x' : Operand} (hx : chkOpd X.G x x' = true) (ht : X.P.underlying t = some .string) : OpS0 X (.call { callee := .builtin .len, args := #[x'], argTypes := #[t] }) (.lenS x) := by
  intro o ho e H w fr a Q k hr hf hs
  have hxv := chkOpd_val hr hf hx
  simp only [opT, evK_eq] at hs
  split at hs
  · rename_i s hxa; rw [hxa] at hxv
    have : (execOp a.eval o).run X.P w = .ok (.value (.int .i64 s.size)) w := by
      rw [run_call_builtin ho]
      simp only [builtin]
      refine run_v ?_
      simp [Builtin.len_, val_str hxv, Sem.run_bind, run_under ht, Result.andThen, goInt]
    rw [this]; exact Out.same hr (mk_int _ _ _) hs
  · exact hs.elim

theorem op_lenM {t q u : TypeId} {x : Opd} {x' : Operand} (hx : chkOpd X.G x x' = true) (ht : X.P.underlying t = some (.map q u)) : OpS0 X (.call { callee := .builtin .len, args := #[x'], argTypes := #[t] }) (.lenM x) := by
  intro o ho e H w fr a Q k hr hf hs
  have hxv := chkOpd_val hr hf hx
  simp only [opT, evK_eq] at hs
  split at hs
  · rename_i hxa; rw [hxa] at hxv; simp only [AV.val, Tr.isAgg, Tr.rel] at hxv
    have : (execOp a.eval o).run X.P w = .ok (.value (.int .i64 0)) w := by
      rw [run_call_builtin ho]
      simp only [builtin]
      refine run_v ?_
      simp at hxv
      simp [Builtin.len_, hxv, Sem.run_bind, run_under ht, Result.andThen, goInt]
    rw [this]; exact Out.same hr (mk_int _ _ _) hs
  · rename_i b hxa; rw [hxa] at hxv; simp only [AV.val, AV.leaf] at hxv
    obtain ⟨blk, esz, rc, n, hβ, hc⟩ := hxv
    obtain ⟨ob, hob, hs⟩ := sat_nthK hs
    have key : ∀ es : List (Tr × Tr), (∃ ents clock, w.heap[blk]? = some (.map ents clock) ∧ mapRel e.ro es ents.toList) → sat X Q (k (.t (.int .i64 (es.length : Int))) H) → Out0 X e H w Q k ((execOp a.eval o).run X.P w) := by
      rintro es ⟨ents, clock, hoo, hm⟩ hs
      have hlen : es.length = ents.size := by
        rw [← Array.length_toList]
        have : ∀ (es : List (Tr × Tr)) (l : List MapEntry), mapRel e.ro es l → es.length = l.length := by
          intro es
          induction es with
          | nil => intro l h; simp only [mapRel] at h; simp [h]
          | cons x r ih =>
            intro l h
            simp only [mapRel] at h
            obtain ⟨me, es', rfl, _, _, h⟩ := h
            simp [ih _ h]
        exact this _ _ hm
      have : (execOp a.eval o).run X.P w = .ok (.value (.int .i64 es.length)) w := by
        rw [run_call_builtin ho]
        simp only [builtin]
        refine run_v ?_
        simp at hc
        simp [Builtin.len_, hc, Sem.run_bind, run_under ht, Result.andThen, goInt, getObj, Sem.run, hoo, hlen]
      rw [this]; exact Out.same hr (mk_int _ _ _) hs
    split at hs
    · obtain ⟨oo, hoo, hrel⟩ := hr.obj b _ hob (by simp) _ _ _ _ hβ
      obtain ⟨_, ents, clock, rfl, hm, _⟩ := hrel
      exact key _ ⟨ents, clock, hoo, hm⟩ hs
    · obtain ⟨oo, hoo, hrel⟩ := hr.obj b _ hob (by simp) _ _ _ _ hβ
      obtain ⟨_, ents, clock, rfl, hm, _⟩ := hrel
      exact key _ ⟨ents, clock, hoo, hm⟩ hs
    · exact hs.elim
  · exact hs.elim

theorem op_lenA {t u : TypeId} {n : Nat} {x' : Operand} (h : X.P.underlying t = some (.array n u) ∨ ∃ q, X.P.underlying t = some (.pointer q) ∧ X.P.underlying q = some (.array n u)) :
    OpS0 X (.call { callee := .builtin .len, args := #[x'], argTypes := #[t] }) (.lenA n) := by
  intro o ho e H w fr a Q k hr hf hs
  simp only [opT] at hs
  have : (execOp a.eval o).run X.P w = .ok (.value (.int .i64 n)) w := by
    rw [run_call_builtin ho]
    simp only [builtin]
    refine run_v ?_
    rcases h with h | ⟨q, h1, h2⟩
    · simp [Builtin.len_, Sem.run_bind, run_under h, Result.andThen, goInt]
    · simp [Builtin.len_, Sem.run_bind, run_under h1, run_under h2, Result.andThen, goInt]
  rw [this]; exact Out.same hr (mk_int _ _ _) hs
end Stk
end

section
/- The framework, part 8: cuts. -/
namespace Stk
open Go
variable {X : Cx} {Q : Ex → Fr → Hp → Prop} {e : Env} {H : Hp} {w : World}

def chkOO (G : Gl) : Option Opd → Option Operand → Bool
  | none, none => true
  | some x, some y => chkOpd G x y
  | _, _ => false
/-- A bound that is there, or not. -/
def OInt (n : Option Int) (v : Option Value) : Prop :=
  match n, v with
  | none, none => True
  | some n, some v => ∃ j, v = .int j n
  | _, _ => False
theorem sat_ointK {fr : Fr} {a : Act} (hr : Rel X.G e H w) (hf : FrR X.N e fr a) {x : Option Opd} {x' : Option Operand} (hx : chkOO X.G x x' = true) {k : Option Int → T} (h : sat X Q (ointK fr x k)) :
    ∃ n, OInt n (x'.map a.eval) ∧ sat X Q (k n) := by
  cases x with
  | none => cases x' with
    | none => exact ⟨none, trivial, h⟩
    | some y => simp [chkOO] at hx
  | some x => cases x' with
    | none => simp [chkOO] at hx
    | some y =>
      simp only [ointK, evK_eq] at h
      obtain ⟨j, n, hn, h⟩ := sat_intK h
      have hv := chkOpd_val hr hf (x := x) (y := y) hx
      rw [hn] at hv
      exact ⟨some n, ⟨j, val_int hv⟩, h⟩

theorem run_sliceBound {P : Program} {j : IntKind} {i : Int} {y : Nat} {code : BoundsCode} (h0 : 0 ≤ i) (h1 : i ≤ y) (w : World) : (Instr.sliceBound (.int j i) y code).run P w = .ok i.toNat w := by
  simp only [Instr.sliceBound, asIntOf, Sem.run_bind, Sem.run_pure, Result.andThen]
  rw [if_pos ⟨h0, h1⟩]; rfl

def lowRun (v : Option Value) (h : Nat) (code : BoundsCode) : Sem Nat :=
  match v with
  | some v => Instr.sliceBound v h code
  | none => pure 0
theorem cut_sound {len top top' : Nat} {lo hi : Option Int} {vlo vhi : Option Value} (hlo : OInt lo vlo) (hhi : OInt hi vhi) (ht : top ≤ top') {k : Nat → Nat → T} (h : sat X Q (cutK len top lo hi k)) :
    ∃ l h', l ≤ h' ∧ (hi = none → h' = len) ∧ (∀ x, hi = some x → h' ≤ top ∧ x = (h' : Int)) ∧ sat X Q (k l h') ∧
      ∀ P b, (Instr.sliceBounds b len top' vlo vhi none).run P w = .ok (l, h', top') w := by
  have low (hh : Nat) (hs : sat X Q (lowK lo hh k)) : ∃ l, l ≤ hh ∧ sat X Q (k l hh) ∧ ∀ P code, (lowRun vlo hh code).run P w = .ok l w := by
    cases lo with
    | none => cases vlo with
      | none => exact ⟨0, Nat.zero_le _, hs, fun P code => rfl⟩
      | some v => exact hlo.elim
    | some l => cases vlo with
      | none => exact hlo.elim
      | some v =>
        obtain ⟨j, rfl⟩ := hlo
        obtain ⟨hb, hs⟩ := hs
        have hb := of_decide_eq_true hb
        exact ⟨l.toNat, by omega, hs, fun P code => run_sliceBound hb.1 hb.2 w⟩
  unfold cutK at h
  cases hi with
  | none => cases vhi with
    | some v => exact hhi.elim
    | none =>
      obtain ⟨l, h1, h2, h3⟩ := low len h
      refine ⟨l, len, h1, fun _ => rfl, by simp, h2, fun P b => ?_⟩
      have h4 := h3 P .sliceB
      simp only [Instr.sliceBounds, Sem.run_bind, Sem.run_pure, Result.andThen, Option.isSome]
      cases vlo <;> simp_all [lowRun]
  | some x => cases vhi with
    | none => exact hhi.elim
    | some v =>
      obtain ⟨j, rfl⟩ := hhi
      simp only [sat] at h
      obtain ⟨hb, h⟩ := h
      have hb := of_decide_eq_true hb
      obtain ⟨l, h1, h2, h3⟩ := low x.toNat h
      refine ⟨l, x.toNat, h1, by simp, fun y hy => by obtain rfl := Option.some.inj hy; omega, h2, fun P b => ?_⟩
      have h4 := h3 P .sliceB
      have h5 : ∀ code, (Instr.sliceBound (.int j x) top' code).run P w = .ok x.toNat w := fun code => run_sliceBound hb.1 (by omega) w
      simp only [Instr.sliceBounds, Sem.run_bind, Sem.run_pure, Result.andThen, Option.isSome, h5]
      cases vlo <;> simp_all [lowRun]

theorem cut3_sound {len top top' : Nat} {lo : Option Int} {hi m : Int} {vlo : Option Value} {vhi vm : Value} {j1 j2 : IntKind} (hlo : OInt lo vlo) (hhi : vhi = .int j1 hi) (hm : vm = .int j2 m) (hm0 : 0 ≤ m) (hmt : m ≤ top') (ht : top = m.toNat ∨ (hi = m)) {k : Nat → Nat → T} (h : sat X Q (cutK len top lo (some hi) k)) :
    ∃ l h', l ≤ h' ∧ h' ≤ m.toNat ∧ h' ≤ top ∧ hi = (h' : Int) ∧ sat X Q (k l h') ∧
      ∀ P b, (Instr.sliceBounds b len top' vlo (some vhi) (some vm)).run P w = .ok (l, h', m.toNat) w := by
  subst hhi hm
  unfold cutK at h
  simp only [sat] at h
  obtain ⟨hb, h⟩ := h
  have hb := of_decide_eq_true hb
  have h5 : ∀ P code, (Instr.sliceBound (.int j2 m) top' code).run P w = .ok m.toNat w := fun P code => run_sliceBound hm0 hmt w
  have h6 : ∀ P code, (Instr.sliceBound (.int j1 hi) m.toNat code).run P w = .ok hi.toNat w := fun P code => run_sliceBound hb.1 (by omega) w
  cases lo with
  | none => cases vlo with
    | some v => exact hlo.elim
    | none =>
      refine ⟨0, hi.toNat, Nat.zero_le _, by omega, by omega, by omega, h, fun P b => ?_⟩
      simp only [Instr.sliceBounds, Sem.run_bind, Sem.run_pure, Result.andThen, h5, h6]
  | some l => cases vlo with
    | none => exact hlo.elim
    | some v =>
      obtain ⟨j, rfl⟩ := hlo
      obtain ⟨hc, h⟩ := h
      have hc := of_decide_eq_true hc
      refine ⟨l.toNat, hi.toNat, by omega, by omega, by omega, by omega, h, fun P b => ?_⟩
      have h7 : ∀ code, (Instr.sliceBound (.int j l) hi.toNat code).run P w = .ok l.toNat w := fun code => run_sliceBound hc.1 hc.2 w
      simp only [Instr.sliceBounds, Sem.run_bind, Sem.run_pure, Result.andThen, Option.isSome, h5, h6, h7]

theorem op_sliceS {t : TypeId} {x : Opd} {x' : Operand} {lo hi : Option Opd} {lo' hi' : Option Operand} (hx : chkOpd X.G x x' = true) (h1 : chkOO X.G lo lo' = true) (h2 : chkOO X.G hi hi' = true) (ht : X.P.underlying t = some .string) :
    OpS0 X (.slice t x' lo' hi' none) (.sliceS x lo hi) := by
  intro o ho e H w fr a Q k hr hf hs
  have hxv := chkOpd_val hr hf hx
  simp only [opT, evK_eq] at hs
  obtain ⟨l, hl, hs⟩ := sat_ointK hr hf h1 hs
  obtain ⟨h, hh, hs⟩ := sat_ointK hr hf h2 hs
  split at hs
  · rename_i s hxa
    rw [hxa] at hxv
    obtain ⟨l', h', hle, _, _, hs, hrun⟩ := cut_sound (w := w) hl hh (Nat.le_refl _) hs
    have : (execOp a.eval o).run X.P w = .ok (.value (.string (s.extract l' h'))) w := by
      simp only [execOp, ho]
      refine run_v ?_
      rw [val_str hxv]
      simp only [Instr.sliceAt, Sem.run_bind, run_under ht, Result.andThen, Instr.slice, Option.map_none, Option.isSome]
      have := hrun X.P false
      simp [this, Result.andThen]
    rw [this]
    exact Out.same hr (mk_str _ _) hs
  · exact hs.elim

theorem eszK_sound {esz b : Nat} {k : Nat → T} (h : sat X Q (eszK esz H b k)) (hr : Rel X.G e H w) {blk es rc : Nat} {n : Option Nat} (hβ : e.β b = .at blk es rc n) : es = esz ∧ ∃ rl, sat X Q (k rl) ∧ (rl = 0 ∨ (n = some rl ∧ rl ≤ rc)) := by
  unfold eszK at h
  obtain ⟨ob, hob, h⟩ := sat_nthK h
  cases ob with
  | row e' xs =>
    obtain ⟨_, _, hrel⟩ := hr.obj b _ hob (by simp) _ _ _ _ hβ
    obtain ⟨he, hk⟩ := sat_t h
    have he := beq_eq he
    refine ⟨by rw [← he, hrel.1], _, hk, .inr ⟨hrel.2.1, ?_⟩⟩
    obtain ⟨_, _, _, _, _, _, _, _, h5, _⟩ := hrel
    exact h5
  | var v =>
    obtain ⟨_, _, hrel⟩ := hr.obj b _ hob (by simp) _ _ _ _ hβ
    obtain ⟨he, hk⟩ := sat_t h
    have he := beq_eq he
    exact ⟨by rw [hrel.2.1, he], _, hk, .inl rfl⟩
  | map es => exact h.elim
  | gone => exact h.elim
  | mapI es i => exact h.elim
  | iter m es left last => exact h.elim
  | dr e' ms h' => exact h.elim
theorem eszK_cont {esz b : Nat} {k : Nat → T} (h : sat X Q (eszK esz H b k)) : ∃ rl, sat X Q (k rl) ∧ ((∃ ys, H[b]? = some (.row esz ys) ∧ rl = ys.length) ∨ rl = 0) := by
  unfold eszK at h
  obtain ⟨ob, hob, h⟩ := sat_nthK h
  cases ob with
  | row e' xs => 
    obtain ⟨he, hk⟩ := sat_t h
    have he := beq_eq he
    subst he
    exact ⟨_, hk, .inl ⟨xs, hob, rfl⟩⟩
  | var v => exact ⟨_, (sat_t h).2, .inr rfl⟩
  | map es => exact h.elim
  | gone => exact h.elim
  | mapI es i => exact h.elim
  | iter m es left last => exact h.elim
  | dr e' ms h' => exact h.elim


/-- a stretch of read-only memory, cut -/
theorem ro_cut {esz : Nat} {xs : List Tr} {base : Option Addr} {holds : Nat → List Value → Prop} {m : Nat → Option (List Value)}
    (hh : xs = [] ∨ ∃ ad mem mid, base = some ad ∧ ad.spot = none ∧ holds ad.block mem ∧ Sub mem ad.off mid ∧ Tr.row m esz xs mid) {l h : Nat} (hle : l ≤ h) (hhx : h ≤ xs.length) :
    (xs.take h).drop l = [] ∨ ∃ ad mem mid, base.map (·.add (l * esz)) = some ad ∧ ad.spot = none ∧ holds ad.block mem ∧ Sub mem ad.off mid ∧ Tr.row m esz ((xs.take h).drop l) mid := by
  rcases hh with rfl | ⟨ad, mem, mid, rfl, hsp, hm, hsub, hrow⟩
  · left; simp
  · right
    obtain ⟨mid2, hs2, hr2⟩ := Tr.row_cut hrow l (h - l)
    rw [Nat.min_eq_left (by omega)] at hs2
    have e1 : ad.add (l * esz) = ⟨ad.block, ad.off + l * esz, none⟩ := by
      have := add_off ad.block ad.off (l * esz)
      rw [← addr_eta hsp] at this; exact this
    refine ⟨⟨ad.block, ad.off + l * esz, none⟩, mem, mid2, by simp [e1], rfl, hm, hsub.trans hs2, ?_⟩
    rw [List.drop_take]; exact hr2

theorem op_slice {t el : TypeId} {esz : Nat} {x : Opd} {x' : Operand} {lo hi mx : Option Opd} {lo' hi' mx' : Option Operand} (hx : chkOpd X.G x x' = true) (h1 : chkOO X.G lo lo' = true) (h2 : chkOO X.G hi hi' = true) (h3 : chkOO X.G mx mx' = true)
    (ht : X.P.underlying t = some (.slice el)) (hsz : (X.P.info? el).map (·.size) = some esz) :
    OpS0 X (.slice t x' lo' hi' mx') (.slice esz x lo hi mx) := by
  intro o ho e H w fr a Q k hr hf hs
  have hxv := chkOpd_val hr hf hx
  simp only [opT, evK_eq] at hs
  obtain ⟨l, hl, hs⟩ := sat_ointK hr hf h1 hs
  obtain ⟨h, hh, hs⟩ := sat_ointK hr hf h2 hs
  obtain ⟨m, hm, hs⟩ := sat_ointK hr hf h3 hs
  have run {ad : Option Addr} {n c l' h' m' : Nat} (hc : a.eval x' = .slice ad n c) (hb : ∀ P b, (Instr.sliceBounds b n c (lo'.map a.eval) (hi'.map a.eval) (mx'.map a.eval)).run P w = .ok (l', h', m') w) :
      (execOp a.eval o).run X.P w = .ok (.value (.slice (if m' = l' then ad else ad.map (·.add (l' * esz))) (h' - l') (m' - l'))) w := by
    simp only [execOp, ho]
    refine run_v ?_
    rw [hc]
    simp only [Instr.sliceAt, Sem.run_bind, run_under ht, Result.andThen, Instr.slice, hb X.P true, run_sizeOf hsz]
    rfl
  have nomax : m = none → mx'.map a.eval = none := by
    rintro rfl
    cases hmm : mx'.map a.eval with
    | none => rfl
    | some v => rw [hmm] at hm; exact hm.elim
  have somemax {n : Int} : m = some n → ∃ j, mx'.map a.eval = some (.int j n) := by
    rintro rfl
    cases hmm : mx'.map a.eval with
    | none => rw [hmm] at hm; exact hm.elim
    | some v => rw [hmm] at hm; obtain ⟨j, rfl⟩ := hm; exact ⟨j, rfl⟩
  have somehi {n : Int} : h = some n → ∃ j, hi'.map a.eval = some (.int j n) := by
    rintro rfl
    cases hmm : hi'.map a.eval with
    | none => rw [hmm] at hh; exact hh.elim
    | some v => rw [hmm] at hh; obtain ⟨j, rfl⟩ := hh; exact ⟨j, rfl⟩
  unfold sliceK at hs
  split at hs
  · rename_i full e' xs hxa
    rw [hxa] at hxv
    simp only [AV.val, Tr.isAgg, Tr.rel] at hxv
    obtain ⟨base, cap, hc, hfull, hcap, hro⟩ := hxv
    have hc : a.eval x' = .slice base xs.length cap := by simpa using hc
    obtain ⟨he, hs⟩ := sat_off' hs
    have he := beq_eq he
    subst he
    cases m with
    | none =>
      have hmx := nomax rfl
      cases h with
      | none =>
        obtain ⟨l', h', hle, hn, _, hs, hrun⟩ := cut_sound (w := w) hl hh hcap hs
        have hn := hn rfl
        subst hn
        rw [run hc (by rw [hmx]; exact hrun)]
        refine Out.same hr ?_ hs
        have e1 : (xs.take xs.length).drop l' = xs.drop l' := by rw [List.take_of_length_le (Nat.le_refl _)]
        simp only [AV.val, Tr.isAgg, Tr.rel]
        refine ⟨_, _, by simp only [List.length_drop]; rfl, ?_, by simp; omega, ?_⟩
        · intro hf1; have := hfull hf1; simp; omega
        · rcases ro_cut (holds := fun k mem => e.ro k = some mem) hro hle (Nat.le_refl _) with hz | hz
          · left; rw [e1] at hz; exact hz
          · by_cases hcl : cap = l'
            · left; simp; omega
            · rw [if_neg hcl, ← e1]; exact .inr hz
      | some hv =>
        obtain ⟨l', h', hle, _, hx1, hs, hrun⟩ := cut_sound (w := w) hl hh hcap hs
        obtain ⟨hx1, _⟩ := hx1 _ rfl
        rw [run hc (by rw [hmx]; exact hrun)]
        refine Out.same hr ?_ hs
        simp only [AV.val, Tr.isAgg, Tr.rel]
        have hlen : ((xs.take h').drop l').length = h' - l' := by simp; omega
        refine ⟨_, _, by rw [hlen], by simp, by rw [hlen]; omega, ?_⟩
        rcases ro_cut (holds := fun k mem => e.ro k = some mem) hro hle hx1 with hz | hz
        · exact .inl hz
        · by_cases hcl : cap = l'
          · left; rw [← List.length_eq_zero_iff, hlen]; omega
          · rw [if_neg hcl]; exact .inr hz
    | some mv =>
      obtain ⟨jm, hmx⟩ := somemax rfl
      cases h with
      | none => exact hs.elim
      | some hv =>
        obtain ⟨jh, hhx⟩ := somehi rfl
        simp only [sat] at hs
        obtain ⟨hmh, hs⟩ := hs
        have hmh : mv = hv := by simpa using hmh
        subst hmh
        have hs0 := hs
        unfold cutK at hs0
        have hb0 := of_decide_eq_true hs0.1
        obtain ⟨l', h', hle, hx0, hx1, hx2, hs, hrun⟩ := cut3_sound (w := w) (top' := cap) hl rfl rfl hb0.1 (by omega) (.inr rfl) (vhi := .int jh mv) (vm := .int jm mv) hs
        rw [run hc (by rw [hmx, hhx]; exact hrun)]
        refine Out.same hr ?_ hs
        have hmv : mv.toNat = h' := by omega
        rw [hmv]
        simp only [AV.val, Tr.isAgg, Tr.rel]
        have hlen : ((xs.take h').drop l').length = h' - l' := by simp; omega
        refine ⟨_, _, by rw [hlen], by intro; rw [hlen], by rw [hlen]; omega, ?_⟩
        rcases ro_cut (holds := fun k mem => e.ro k = some mem) hro hle hx1 with hz | hz
        · exact .inl hz
        · by_cases hcl : h' = l'
          · left; rw [← List.length_eq_zero_iff, hlen]; omega
          · rw [if_neg hcl]; exact .inr hz
  · rename_i e' xs hxa
    rw [hxa] at hxv
    simp only [AV.val, AV.leaf] at hxv
    obtain ⟨base, cap, hc, hcap, hro⟩ := hxv
    have hc : a.eval x' = .slice base xs.length cap := by simpa using hc
    obtain ⟨he, hs⟩ := sat_off' hs
    have he := beq_eq he
    subst he
    cases m with
    | none =>
      have hmx := nomax rfl
      obtain ⟨l', h', hle, hn, hx1, hs, hrun⟩ := cut_sound (w := w) hl hh hcap hs
      have hx1 : h' ≤ xs.length := by
        cases h with
        | none => rw [hn rfl]; exact Nat.le_refl _
        | some v => exact (hx1 _ rfl).1
      rw [run hc (by rw [hmx]; exact hrun)]
      refine Out.same hr ?_ hs
      simp only [AV.val, AV.leaf]
      have hlen : ((xs.take h').drop l').length = h' - l' := by simp; omega
      refine ⟨_, _, by rw [hlen], by rw [hlen]; omega, ?_⟩
      rcases ro_cut hro hle hx1 with hz | hz
      · exact .inl hz
      · by_cases hcl : cap = l'
        · left; rw [← List.length_eq_zero_iff, hlen]; omega
        · rw [if_neg hcl]; exact .inr hz
    | some mv =>
      obtain ⟨jm, hmx⟩ := somemax rfl
      cases h with
      | none => exact hs.elim
      | some hv =>
        obtain ⟨jh, hhx⟩ := somehi rfl
        simp only [sat] at hs
        obtain ⟨hmh, hs⟩ := hs
        have hmh : mv = hv := by simpa using hmh
        subst hmh
        have hs0 := hs
        unfold cutK at hs0
        have hb0 := of_decide_eq_true hs0.1
        obtain ⟨l', h', hle, hx0, hx1, hx2, hs, hrun⟩ := cut3_sound (w := w) (top' := cap) hl rfl rfl hb0.1 (by omega) (.inr rfl) (vhi := .int jh mv) (vm := .int jm mv) hs
        rw [run hc (by rw [hmx, hhx]; exact hrun)]
        refine Out.same hr ?_ hs
        have hmv : mv.toNat = h' := by omega
        rw [hmv]
        simp only [AV.val, AV.leaf]
        have hlen : ((xs.take h').drop l').length = h' - l' := by simp; omega
        refine ⟨_, _, by rw [hlen], by rw [hlen]; omega, ?_⟩
        rcases ro_cut hro hle hx1 with hz | hz
        · exact .inl hz
        · by_cases hcl : h' = l'
          · left; rw [← List.length_eq_zero_iff, hlen]; omega
          · rw [if_neg hcl]; exact .inr hz
  · rename_i b o' p off len cap hxa
    rw [hxa] at hxv
    simp only [AV.val, AV.leaf] at hxv
    rcases hxv with ⟨hβ, rfl, rfl, rfl, rfl, hcp, base, hc⟩ | ⟨blk, es, rc, nn, base, c, hβ, hc, hle0, hin, hcap, hbase⟩
    · have hc : a.eval x' = .slice base 0 0 := by simpa using hc
      obtain ⟨rl, hs, hrl⟩ := eszK_cont hs
      have hrl0 : rl = 0 := by
        rcases hrl with ⟨ys, h1, h2⟩ | h2
        · obtain ⟨_, h3 | h3⟩ := hr.virt b _ h1 (by simp) hβ
          · simp only [AO.row.injEq] at h3
            rw [h2, h3.2]; rfl
          · cases h3
        · exact h2
      cases m with
      | none =>
        have hmx := nomax rfl
        simp only at hs
        have e0 : cap.getD (max 0 (rl - 0)) = 0 := by rw [hrl0]; simpa using hcp
        rw [e0] at hs
        obtain ⟨l', h', hle, hn, hx1, hs, hrun⟩ := cut_sound (w := w) hl hh (Nat.le_refl 0) hs
        have hx1 : h' = 0 := by
          cases h with
          | none => exact hn rfl
          | some v => have := (hx1 _ rfl).1; omega
        subst hx1
        have : l' = 0 := by omega
        subst this
        rw [run hc (by rw [hmx]; exact hrun)]
        refine Out.same hr ?_ hs
        simp only [AV.val, AV.leaf]
        refine .inl ⟨hβ, rfl, rfl, rfl, rfl, ?_, _, by simp; rfl⟩
        cases cap with
        | none => rfl
        | some k => simp at hcp; simp [hcp]
      | some mv =>
        obtain ⟨jm, hmx⟩ := somemax rfl
        cases h with
        | none => exact hs.elim
        | some hv =>
          obtain ⟨jh, hhx⟩ := somehi rfl
          obtain ⟨hmb, hs⟩ := hs
          have hmb := of_decide_eq_true hmb
          rw [hcp] at hmb
          obtain ⟨l', h', hle, hx0, hx1, hx2, hs, hrun⟩ := cut3_sound (w := w) (top' := 0) hl rfl rfl hmb.1 hmb.2 (.inl rfl) (vhi := .int jh hv) (vm := .int jm mv) hs
          have : mv.toNat = 0 := by omega
          rw [this] at hx0 hrun hs
          have : h' = 0 := by omega
          subst this
          have : l' = 0 := by omega
          subst this
          rw [run hc (by rw [hmx, hhx]; exact hrun)]
          refine Out.same hr ?_ hs
          simp only [AV.val, AV.leaf]
          exact .inl ⟨hβ, rfl, rfl, rfl, rfl, by simp, _, by simp; rfl⟩
    · have hc : a.eval x' = .slice base len c := by simpa using hc
      obtain ⟨hes, rl, hs9, hrl⟩ := eszK_sound hs hr hβ
      subst hes
      have hs := hs9
      have moved {l' h' m' : Nat} (hl1 : l' ≤ h') (hm1 : h' ≤ m') (hm2 : m' ≤ c) (h4 : ∀ n', nn = some n' → off + h' ≤ n') (capN : Option Nat)
          (hcn : match capN with
            | some k => m' - l' = k
            | none => o' = 0 ∧ p = [] ∧ off + l' ≤ rc ∧ m' - l' = rc - (off + l')) (hcn2 : ∀ n', nn = some n' → off + l' + capN.getD 0 ≤ n') :
          AV.val e (.sl b o' p (off + l') (h' - l') capN) (.slice (if m' = l' then base else base.map (·.add (l' * es))) (h' - l') (m' - l')) := by
        simp only [AV.val, AV.leaf]
        refine .inr ⟨blk, es, rc, nn, _, _, hβ, rfl, by omega, fun n' hn' => ⟨by have := h4 n' hn'; omega, (hin n' hn').2.1, hcn2 n' hn'⟩, hcn, ?_⟩
        by_cases hml : m' = l'
        · left; omega
        · right
          rw [if_neg hml]
          rcases hbase with hz | hz
          · omega
          · rw [hz]; simp [add_off, Nat.add_mul, Nat.add_assoc]
      have htop : cap.getD (max len (rl - off)) ≤ c ∧ len ≤ c := by
        refine ⟨?_, hle0⟩
        cases cap with
        | none =>
          simp only at hcap
          simp only [Option.getD_none]
          rcases hrl with rfl | ⟨_, h2⟩ <;> omega
        | some k => simp only at hcap; simp [hcap]
      have htop2 : cap.getD len ≤ c := by
        cases cap with
        | none => exact hle0
        | some k => simp only at hcap; simp [hcap]
      cases m with
      | none =>
        have hmx := nomax rfl
        obtain ⟨l', h', hle, hn, hx1, hs, hrun⟩ := cut_sound (w := w) hl hh htop.1 hs
        have hx2 : h' ≤ c ∧ ∀ n', nn = some n' → off + h' ≤ n' := by
          cases h with
          | none => rw [hn rfl]; exact ⟨hle0, fun n' hn' => (hin n' hn').1⟩
          | some v =>
            have := (hx1 _ rfl).1
            refine ⟨by omega, fun n' hn' => ?_⟩
            obtain ⟨g1, _, g2⟩ := hin n' hn'
            cases cap with
            | none =>
              simp only [Option.getD_none] at this
              rcases hrl with rfl | ⟨h2, h3⟩
              · omega
              · rw [hn'] at h2
                obtain rfl := Option.some.inj h2
                omega
            | some k => simp only [Option.getD_some] at this g2; omega
        rw [run hc (by rw [hmx]; exact hrun)]
        refine Out.same hr (moved hle hx2.1 (Nat.le_refl _) hx2.2 _ ?_ (fun n' hn' => ?_)) hs
        · cases cap with
          | none => simp only at hcap ⊢; refine ⟨hcap.1, hcap.2.1, ?_, ?_⟩ <;> omega
          | some k => simp only at hcap ⊢; omega
        · obtain ⟨g1, _, g2⟩ := hin n' hn'
          have := hx2.2 n' hn'
          cases cap with
          | none => simp only [Option.getD_none]; omega
          | some k => simp only at hcap; simp only [Option.getD_some] at g2 ⊢; omega
      | some mv =>
        obtain ⟨jm, hmx⟩ := somemax rfl
        cases h with
        | none => exact hs.elim
        | some hv =>
          obtain ⟨jh, hhx⟩ := somehi rfl
          obtain ⟨hmb, hs⟩ := hs
          have hmb := of_decide_eq_true hmb
          obtain ⟨l', h', hle, hx0, hx1, hx2, hs, hrun⟩ := cut3_sound (w := w) (top' := c) hl rfl rfl hmb.1 (by omega) (.inl rfl) (vhi := .int jh hv) (vm := .int jm mv) hs
          rw [run hc (by rw [hmx, hhx]; exact hrun)]
          refine Out.same hr (moved hle hx0 (by omega) (fun n' hn' => ?_) _ (by simp) (fun n' hn' => ?_)) hs
          · obtain ⟨g1, _, g2⟩ := hin n' hn'
            cases cap with
            | none => simp only [Option.getD_none] at hmb; omega
            | some k => simp only [Option.getD_some] at hmb g2; omega
          · obtain ⟨g1, _, g2⟩ := hin n' hn'
            cases cap with
            | none => simp only [Option.getD_none, Option.getD_some] at hmb ⊢; omega
            | some k => simp only [Option.getD_some] at hmb g2 ⊢; omega
  · exact hs.elim
end Stk
end

section
/- The framework, part 9: what is appended, copied, made. -/
namespace Stk
open Go
variable {X : Cx} {Q : Ex → Fr → Hp → Prop} {e : Env} {H : Hp} {w : World}

theorem op_sliceA {t el : TypeId} {n : Nat} {x : Opd} {x' : Operand} {lo hi mx : Option Opd} {lo' hi' mx' : Option Operand} (hx : chkOpd X.G x x' = true) (h1 : chkOO X.G lo lo' = true) (h2 : chkOO X.G hi hi' = true) (h3 : chkOO X.G mx mx' = true)
    (ht : X.P.underlying t = some (.array n el) ∨ ∃ q, X.P.underlying t = some (.pointer q) ∧ X.P.underlying q = some (.array n el)) (hsz : (X.P.info? el).map (·.size) = some 1) :
    OpS0 X (.slice t x' lo' hi' mx') (.sliceA n x lo hi mx) := by
  intro o ho e H w fr a Q k hr hf hs
  have hxv := chkOpd_val hr hf hx
  simp only [opT, evK_eq] at hs
  obtain ⟨l, hl, hs⟩ := sat_ointK hr hf h1 hs
  obtain ⟨h, hh, hs⟩ := sat_ointK hr hf h2 hs
  obtain ⟨m, hm, hs⟩ := sat_ointK hr hf h3 hs
  have run {ad : Addr} {l' h' m' : Nat} (hc : a.eval x' = .pointer (some ad)) (hb : ∀ P b, (Instr.sliceBounds b n n (lo'.map a.eval) (hi'.map a.eval) (mx'.map a.eval)).run P w = .ok (l', h', m') w) :
      (execOp a.eval o).run X.P w = .ok (.value (.slice (some (if m' = l' then ad else ad.add (l' * 1))) (h' - l') (m' - l'))) w := by
    simp only [execOp, ho]
    refine run_v ?_
    rw [hc]
    rcases ht with ht | ⟨q, ht, hq⟩
    · simp only [Instr.sliceAt, Sem.run_bind, run_under ht, Result.andThen, Instr.sureAddr, Sem.run_pure, hb X.P false, run_sizeOf hsz]
    · simp only [Instr.sliceAt, Sem.run_bind, run_under ht, Result.andThen, Instr.slice, asAddr, Sem.run_pure, run_under hq, hb X.P false, run_sizeOf hsz]
  have nomax : m = none → mx'.map a.eval = none := by
    rintro rfl
    cases hmm : mx'.map a.eval with
    | none => rfl
    | some v => rw [hmm] at hm; exact hm.elim
  unfold sliceAK at hs
  split at hs
  · rename_i b o' p hxa
    rw [hxa] at hxv
    simp only [AV.val, AV.leaf] at hxv
    obtain ⟨blk, esz, rc, nn, hβ, hc⟩ := hxv
    have hc : a.eval x' = .pointer (some ⟨blk, o', none⟩) := by simpa using hc
    obtain ⟨ob, hob, hs⟩ := sat_nthK hs
    cases ob with
    | row _ _ => exact hs.elim
    | map _ => exact hs.elim
    | gone => exact hs.elim
    | mapI es i => exact hs.elim
    | iter m es left last => exact hs.elim
    | dr e' ms h' => exact hs.elim
    | var v =>
      cases m with
      | some _ => exact hs.elim
      | none =>
        obtain ⟨oo, hoo, hrel⟩ := hr.obj b _ hob (by simp) _ _ _ _ hβ
        obtain ⟨hnn, he1, _⟩ := hrel
        obtain ⟨l', h', hle, hn, hx1, hs, hrun⟩ := cut_sound (w := w) hl hh (Nat.le_refl n) hs
        have hx1 : h' ≤ n := by
          cases h with
          | none => rw [hn rfl]; exact Nat.le_refl _
          | some v => exact (hx1 _ rfl).1
        rw [run hc (by rw [nomax rfl]; exact hrun)]
        refine Out.same hr ?_ hs
        simp only [AV.val, AV.leaf]
        refine .inr ⟨blk, esz, rc, nn, _, _, hβ, rfl, by omega, (fun n' hn' => absurd hn' (by rw [hnn]; simp)), rfl, ?_⟩
        by_cases hml : n = l'
        · left; omega
        · right; rw [if_neg hml, add_off, he1]
  · rename_i m' xs hxa
    rw [hxa] at hxv
    simp only [AV.val, AV.leaf, Tr.rel] at hxv
    obtain ⟨ad, mem, mid, hc, hsp, hmm, hsub, hlen, hones⟩ := hxv
    have hc : a.eval x' = .pointer (some ad) := by simpa using hc
    cases m with
    | some _ => exact hs.elim
    | none =>
      have hmn : m' = n ∧ sat X Q (cutK n n l h fun l h => k (.bz 1 ((xs.take h).drop l)) H) := by
        cases hb : Nat.beq m' n with
        | true => rw [hb] at hs; exact ⟨beq_eq hb, hs⟩
        | false => rw [hb] at hs; exact hs.elim
      obtain ⟨hmn, hz⟩ := hmn
      subst hmn
      obtain ⟨l', h', hle, hn, hx1, hz, hrun⟩ := cut_sound (w := w) hl hh (Nat.le_refl m') hz
      have hx1 : h' ≤ m' := by
        cases h with
        | none => rw [hn rfl]; exact Nat.le_refl _
        | some v => exact (hx1 _ rfl).1
      rw [run hc (by rw [nomax rfl]; exact hrun)]
      refine Out.same hr ?_ hz
      simp only [AV.val, AV.leaf]
      have hl2 : ((xs.take h').drop l').length = h' - l' := by simp; omega
      refine ⟨_, _, by rw [hl2], by rw [hl2]; omega, ?_⟩
      rcases ro_cut (base := some ad) (holds := e.holds) (.inr ⟨ad, mem, mid, rfl, hsp, hmm, hsub, Tr.ones_row hones⟩) hle (by omega) with hq | ⟨ad2, mem2, mid2, h4, h5⟩
      · exact .inl hq
      · by_cases hml : m' = l'
        · left; rw [← List.length_eq_zero_iff, hl2]; omega
        · right
          rw [if_neg hml]
          exact ⟨ad2, mem2, mid2, by simpa using h4, h5⟩
  · exact hs.elim

theorem mnmx_sound {mx : Bool} {j : IntKind} : ∀ {vs : List AV} {x : Int} {cs : List Value} {k : AV → T}, AV.vals e vs cs → sat X Q (mnmxK mx j x vs k) →
    ∃ y, sat X Q (k (.t (.int j y))) ∧ ∀ P, (cs.foldlM (if mx then Builtin.max2 else Builtin.min2) (.int j x) : Sem Value).run P w = .ok (.int j y) w
  | [], x, cs, k, hvs, h => by
    simp only [AV.vals] at hvs; subst hvs
    exact ⟨x, h, fun P => by simp⟩
  | u :: vs, x, cs, k, hvs, h => by
    simp only [AV.vals] at hvs
    obtain ⟨d, b, rfl, hu, hb⟩ := hvs
    unfold mnmxK at h
    split at h
    · rename_i j' y
      have hd := val_int hu
      subst hd
      cases hk : kindEq j j' with
      | false => rw [hk] at h; exact h.elim
      | true =>
        rw [hk] at h
        cases mx with
        | true =>
          obtain ⟨z, hz, hrun⟩ := mnmx_sound (x := max x y) hb h
          refine ⟨z, hz, fun P => ?_⟩
          simp only [List.foldlM_cons, Sem.run_bind, if_true, Builtin.max2, Sem.run_pure, Result.andThen]
          have e1 : (if y > x then y else x) = max x y := by rw [Int.max_def]; split <;> split <;> omega
          rw [e1]; exact hrun P
        | false =>
          obtain ⟨z, hz, hrun⟩ := mnmx_sound (x := min x y) hb h
          refine ⟨z, hz, fun P => ?_⟩
          simp only [List.foldlM_cons, Sem.run_bind, Bool.false_eq_true, if_false, Builtin.min2, Sem.run_pure, Result.andThen]
          have e1 : (if y < x then y else x) = min x y := by rw [Int.min_def]; split <;> split <;> omega
          rw [e1]; exact hrun P
    · exact h.elim

theorem op_mnmx {mx : Bool} {xs : List Opd} {xs' : Array Operand} {ats : Array TypeId} (hx : chkOpds X.G xs xs'.toList = true) : OpS0 X (.call { callee := .builtin (if mx then .max else .min), args := xs', argTypes := ats }) (.mnmx mx xs) := by
  intro o ho e H w fr a Q k hr hf hs
  have hv := chkOpds_vals hr hf hx
  simp only [opT, evsK_eq] at hs
  split at hs
  · rename_i j x vs hxs
    rw [hxs] at hv
    simp only [AV.vals] at hv
    obtain ⟨c, b, hcs, hc, hb⟩ := hv
    have hc := val_int hc
    subst hc
    obtain ⟨y, hs, hrun⟩ := mnmx_sound (w := w) hb hs
    have : (execOp a.eval o).run X.P w = .ok (.value (.int j y)) w := by
      rw [run_call_builtin ho]
      have hl : (xs'.map a.eval).toList = .int j x :: b := by simpa using hcs
      have h1 := hrun X.P
      cases mx with
      | true =>
        simp only [if_true, builtin] at h1 ⊢
        refine run_v ?_
        simp only [Builtin.max_, hl]
        exact h1
      | false =>
        simp only [Bool.false_eq_true, if_false, builtin] at h1 ⊢
        refine run_v ?_
        simp only [Builtin.min_, hl]
        exact h1
    rw [this]
    exact Out.same hr (mk_int _ _ _) hs
  · exact hs.elim

/-! ### What a slice or a string yields -/
theorem sat_elems {b : Bool} {xs : List Tr} {k : List Tr → T} {s : String} (h : sat X Q (match b, xs with
      | true, xs => k xs
      | false, [] => k []
      | _, _ => .stuck s)) : (b = true ∧ sat X Q (k xs)) ∨ (xs = [] ∧ sat X Q (k [])) := by
  cases b with
  | true => exact .inl ⟨rfl, h⟩
  | false => cases xs with
    | nil => exact .inr ⟨rfl, h⟩
    | cons x r => exact h.elim
theorem elems_sound (hr : Rel X.G e H w) {a : AV} {c : Value} (ha : AV.val e a c) {esz : Nat} {k : List Tr → T} (h : sat X Q (elemsK esz H a k)) :
    ∃ ys news, sat X Q (k ys) ∧ Tr.row e.ro esz ys news ∧ ((∃ base cap, c = .slice base ys.length cap ∧ (news = [] ∨ ∃ ad, base = some ad ∧ ad.spot = none ∧ ∃ cs t fz, w.heap[ad.block]? = some (.cells cs t fz) ∧ Sub cs.toList ad.off news)) ∨ (∃ s, c = .string s ∧ esz = 1 ∧ ys.length = s.size ∧ news = byteCells s)) := by
  have nil_of {ys : List Tr} {news : List Value} (hrow : Tr.row e.ro esz ys news) (h : ys = []) : news = [] := by subst h; simpa [Tr.row] using hrow
  unfold elemsK at h
  split at h
  · rename_i full es xs
    simp only [AV.val, Tr.isAgg, Tr.rel] at ha
    obtain ⟨base, cap, hc, _, _, hh⟩ := ha
    have hc : c = .slice base xs.length cap := by simpa using hc
    rcases sat_elems h with ⟨he, hz⟩ | ⟨hx0, hz⟩
    · have he := beq_eq he
      subst he
      rcases hh with rfl | ⟨ad, mem, mid, rfl, hsp, hm, hsub, hrow⟩
      · exact ⟨[], [], hz, by simp [Tr.row], .inl ⟨base, cap, by simpa using hc, .inl rfl⟩⟩
      · obtain ⟨cs, t, fz, hk, rfl⟩ := hr.mem _ _ (.inl hm)
        exact ⟨xs, mid, hz, hrow, .inl ⟨_, cap, hc, .inr ⟨ad, rfl, hsp, cs, t, fz, hk, hsub⟩⟩⟩
    · subst hx0; exact ⟨[], [], hz, by simp [Tr.row], .inl ⟨base, cap, by simpa using hc, .inl rfl⟩⟩
  · rename_i es xs
    simp only [AV.val, AV.leaf] at ha
    obtain ⟨base, cap, hc, _, hh⟩ := ha
    have hc : c = .slice base xs.length cap := by simpa using hc
    obtain ⟨he, hz⟩ := sat_t h
    have he := beq_eq he
    subst he
    rcases hh with rfl | ⟨ad, mem, mid, rfl, hsp, hm, hsub, hrow⟩
    · exact ⟨[], [], hz, by simp [Tr.row], .inl ⟨base, cap, by simpa using hc, .inl rfl⟩⟩
    · obtain ⟨cs, t, fz, hk, rfl⟩ := hr.mem _ _ hm
      exact ⟨xs, mid, hz, hrow, .inl ⟨_, cap, hc, .inr ⟨ad, rfl, hsp, cs, t, fz, hk, hsub⟩⟩⟩
  · rename_i s
    have hc := val_str ha
    obtain ⟨he, hz⟩ := sat_t h
    have he := beq_eq he
    subst he
    refine ⟨_, byteCells s, hz, ?_, .inr ⟨s, hc, rfl, by simp, rfl⟩⟩
    unfold byteCells
    generalize s.data.toList = l
    induction l with
    | nil => simp [Tr.row]
    | cons b l ih => simp only [List.map_cons, Tr.row]; exact ⟨[.int .u8 b.toNat], _, rfl, rfl, by simp [byteT, Tr.rel], ih⟩
  · rename_i b o p off len cap
    simp only [AV.val, AV.leaf] at ha
    obtain ⟨ob, hob, h⟩ := sat_nthK h
    cases ob with
    | map _ => exact h.elim
    | gone => exact h.elim
    | mapI es i => exact h.elim
    | iter m es left last => exact h.elim
    | dr e' ms h' => exact h.elim
    | row es xs =>
      obtain ⟨he, hz⟩ := sat_t h
      have he := beq_eq he
      subst he
      rcases ha with ⟨hβ, rfl, rfl, rfl, rfl, _, base, hc⟩ | ⟨blk, es', rc, nn, base, cp, hβ, hc, hle, hin, hcap, hbase⟩
      · exact ⟨_, [], hz, by simp [Tr.row], .inl ⟨base, 0, by simpa using hc, .inl rfl⟩⟩
      · have hc : c = .slice base len cp := by simpa using hc
        obtain ⟨oo, hoo, hrel⟩ := hr.obj b _ hob (by simp) _ _ _ _ hβ
        obtain ⟨rfl, hn, cs, t, fz, rfl, _, _, _, _, mid, post, hcs, hrow⟩ := hrel
        obtain ⟨hin, rfl, _⟩ := hin _ hn
        obtain ⟨mid2, hs2, hr2⟩ := Tr.row_cut hrow off len
        rw [Nat.min_eq_left (by omega)] at hs2
        have hs0 : Sub cs.toList 0 mid := ⟨[], post, by simpa using hcs, rfl⟩
        have hlen : ((xs.drop off).take len).length = len := by simp; omega
        refine ⟨_, mid2, hz, hr2, .inl ⟨base, cp, by rw [hlen]; exact hc, ?_⟩⟩
        rcases hbase with h0 | rfl
        · left; exact nil_of hr2 (by rw [← List.length_eq_zero_iff, hlen]; omega)
        · right; exact ⟨_, rfl, rfl, cs, t, fz, hoo, by simpa using hs0.trans hs2⟩
    | var v =>
      obtain ⟨y, d, hp, h⟩ := sat_getA h
      simp only [Nat.zero_add] at h
      split at h
      · rename_i m xs hod hesz
        have hod := beq_eq hod
        have hesz := beq_eq hesz
        simp only [sat] at h
        obtain ⟨hb, hz⟩ := h
        have hb := of_decide_eq_true hb
        subst hod hesz
        have hlen : ((xs.drop off).take len).length = len := by simp; omega
        rcases ha with ⟨hβ, rfl, rfl, rfl, rfl, _, base, hc⟩ | ⟨blk, es', rc, nn, base, cp, hβ, hc, hle, hin, hcap, hbase⟩
        · exact ⟨_, [], hz, by simp [Tr.row], .inl ⟨base, 0, by simpa using hc, .inl rfl⟩⟩
        · have hc : c = .slice base len cp := by simpa using hc
          obtain ⟨oo, hoo, hrel⟩ := hr.obj b _ hob (by simp) _ _ _ _ hβ
          obtain ⟨hnn, rfl, cs, t, fz, rfl, hvr, _⟩ := hrel
          obtain ⟨mid, hs, hy, _⟩ := pathA_sound (y := .undef) hp hvr
          simp only [AV.rel, AV.leaf, Tr.rel] at hy
          obtain ⟨mid2, hs2, hr2⟩ := Tr.row_cut (Tr.ones_row hy.2) off len
          rw [Nat.min_eq_left (by omega)] at hs2
          refine ⟨_, mid2, hz, hr2, .inl ⟨base, cp, by rw [hlen]; exact hc, ?_⟩⟩
          rcases hbase with h0 | rfl
          · left; exact nil_of hr2 (by rw [← List.length_eq_zero_iff, hlen]; omega)
          · right; exact ⟨_, rfl, rfl, cs, t, fz, hoo, hs.trans hs2⟩
      · exact h.elim
  · exact h.elim

/-- what it yields, as the append's law wants it -/
theorem src_of {P : Program} {esz : Nat} {tx : TypeId} {c : Value} {ys : List Tr} {news : List Value} {m : Nat → Option (List Value)} (hk : (∃ e', P.underlying tx = some (.slice e')) ∨ P.underlying tx = some .string) (hrow : Tr.row m esz ys news)
    (h : (∃ base cap, c = .slice base ys.length cap ∧ (news = [] ∨ ∃ ad, base = some ad ∧ ad.spot = none ∧ ∃ cs t fz, w.heap[ad.block]? = some (.cells cs t fz) ∧ Sub cs.toList ad.off news)) ∨ (∃ s, c = .string s ∧ esz = 1 ∧ ys.length = s.size ∧ news = byteCells s)) :
    Src P esz tx c ys.length news w := by
  have hl := Tr.row_length hrow
  rcases h with ⟨base, cap, rfl, h⟩ | ⟨s, rfl, rfl, h1, rfl⟩
  · have key : ∀ w' : World, (∀ k : Nat, w'.heap[k]? = w.heap[k]?) → (Builtin.firstCells esz ys.length (.slice base ys.length cap)).run P w' = .ok news.toArray w' := by
      intro w' hw
      rcases h with rfl | ⟨ad, rfl, hsp, cs, t, fz, hk', hsub⟩
      · have h0 : ys.length * esz = 0 := by simpa using hl.symm
        cases base with
        | none => rfl
        | some ad => simp only [Builtin.firstCells, h0]; rfl
      · have := run_loadCells_sub (P := P) (w := w') (k := ad.block) (cs := cs) (t := t) (fz := fz) (by rw [hw]; exact hk') hsub
        simp only [Builtin.firstCells, ← hl]
        rw [addr_eta hsp]; exact this
    exact ⟨hk, fun _ => rfl, key w (fun _ => rfl), key w.drew (fun _ => rfl), hl, fun u hu => Tr.row_one hrow u hu⟩
  · rw [h1]
    exact ⟨hk, fun _ => rfl, firstCells_string s w, firstCells_string s w.drew, by rw [byteCells_length, Nat.mul_one], fun u hu => by
      obtain ⟨_, _, rfl⟩ := List.mem_map.1 hu
      rfl⟩

/-! ### Appends -/
theorem append_room {P : Program} {w w' : World} (t tx ty el : TypeId) (i : TypeInfo) (ht : P.underlying t = some (.slice el)) (hi : P.info? el = some i) (b off sLen sCap : Nat) (x : Value) (n : Nat) (news : List Value) (hs : Go.Src P i.size tx x n news w)
    (hroom : sLen + n ≤ sCap) (hst : (storeCells ⟨b, off + sLen * i.size, none⟩ news).run P w = .ok () w') :
    (Builtin.append_ #[t, tx] ty #[.slice (some ⟨b, off, none⟩) sLen sCap, x]).run P w = .ok (.slice (some ⟨b, off, none⟩) (sLen + n) sCap) w' := by
  rcases hs.kind with ⟨e', hk⟩ | hk <;> simp [Builtin.append_, run_underlying ht, run_underlying hk, Go.sizeOf, typeInfo, hi, hs.len, hroom, hs.cells, Addr.add_lit, hst]

theorem roomy_spec {n bytes : Nat} (h : roomy n bytes = true) : 2 * n * bytes ≤ 281474976710656 ∧ n < 4611686018427387904 := by
  have := of_decide_eq_true h; omega

/-- The types of an append. -/
structure AppTy (P : Program) (t tx el : TypeId) (esz bytes : Nat) : Prop where
  ht : P.underlying t = some (.slice el)
  info : ∃ i z, P.info? el = some i ∧ i.size = esz ∧ i.bytes = bytes ∧ i.zero = some z ∧ z.cells.size = esz ∧ Ones z.cells.toList
  kind : (∃ e', P.underlying tx = some (.slice e')) ∨ P.underlying tx = some .string

theorem zero_ones {z : Array Value} (h : Ones z.toList) (n : Nat) : Ones (Builtin.zeroCells z n).toList := by
  intro c hc
  simp only [Builtin.zeroCells, Array.toList_map, List.mem_map] at hc
  obtain ⟨i, hi, rfl⟩ := hc
  by_cases hz : z.size = 0
  · rw [hz, Nat.mul_zero] at hi; simp at hi
  · have hlt : i % z.size < z.size := Nat.mod_lt _ (by omega)
    rw [getElem!_pos z (i % z.size) hlt]
    exact h _ (by simp)

/-- A new row behind an append that grows. -/
theorem grow_row (hr : Rel X.G e H w) {t tx ty el : TypeId} {esz bytes : Nat} (hT : AppTy X.P t tx el esz bytes) {base : Option Addr} {sLen sCap : Nat} {xs ys : List Tr} {olds news : List Value} {c : Value}
    (hold : (Builtin.firstCells esz sLen (.slice base sLen sCap)).run X.P w.drew = .ok olds.toArray w.drew) (hox : Tr.row e.ro esz xs olds) (hlen : xs.length = sLen) (hny : Tr.row e.ro esz ys news)
    (hsrc : Go.Src X.P esz tx c ys.length news w) (hg : sCap < sLen + ys.length) (hroom : roomy (sLen + ys.length) bytes = true) :
    ∃ v w' cap, (Builtin.append_ #[t, tx] ty #[.slice base sLen sCap, c]).run X.P w = .ok v w' ∧
      Step X.G e H w (e.bind H.length (.at w.heap.size esz cap (some (xs ++ ys).length))) (H ++ [.row esz (xs ++ ys)]) w' ∧
      AV.val (e.bind H.length (.at w.heap.size esz cap (some (xs ++ ys).length))) (.sl H.length 0 [] 0 (sLen + ys.length) none) v := by
  obtain ⟨i, z, hi, hsz, hby, hz, hzs, hzo⟩ := hT.info
  obtain ⟨r1, r2⟩ := roomy_spec hroom
  have hfit : Builtin.nextslicecap (sLen + ys.length) sCap * i.bytes ≤ 281474976710656 := by
    have := nextslicecap_le hg
    rw [hby]
    exact Nat.le_trans (Nat.mul_le_mul_right bytes this) r1
  subst hsz
  have hrun := run_append_grow_src w t tx ty el i z hT.ht hi hz base sLen sCap olds hold c ys.length news hsrc hg (by omega) hfit
  have hcap := grownCap_ge w (sLen + ys.length) sCap el
  refine ⟨_, _, grownCap w (sLen + ys.length) sCap el, hrun, ?_, ?_⟩
  · have hd := Step.drew hr
    have hlo := Tr.row_length hox
    have hln := Tr.row_length hny
    have hst := Step.new (o := .row i.size (xs ++ ys)) (ob := .cells ((olds ++ news).toArray ++ Builtin.zeroCells z.cells (grownCap w (sLen + ys.length) sCap el - (sLen + ys.length))) el) (esz := i.size) (cap := grownCap w (sLen + ys.length) sCap el) (n := some (xs ++ ys).length) hd.rel
      ⟨rfl, rfl, _, _, (0, 0), rfl, ⟨Nat.le_refl _, fun i _ => by simp⟩, ?_, by simp; omega, ?_, olds ++ news, _, by simp; rfl, Tr.row_append hox hny⟩
    · exact hd.trans hst
    · simp only [Array.size_append, List.size_toArray, List.length_append, size_zeroCells, hzs, hlo, hln, hlen]
      rw [← Nat.add_mul, ← Nat.add_mul]; congr 1; omega
    · intro c hc
      simp only [Array.toList_append, List.mem_append] at hc
      rcases hc with (hc | hc) | hc
      · exact Tr.row_one hox c hc
      · exact Tr.row_one hny c hc
      · exact zero_ones hzo _ c hc
  · simp only [AV.val, AV.leaf]
    exact .inr ⟨_, _, _, _, _, _, e.bind_same _ _, rfl, hcap, fun n' hn' => by obtain rfl := Option.some.inj hn'; simp; omega, ⟨rfl, rfl, Nat.zero_le _, by simp⟩, .inr (by simp)⟩

theorem append_sound (hr : Rel X.G e H w) {t tx ty el : TypeId} {esz bytes : Nat} (hT : AppTy X.P t tx el esz bytes) {inn : Bool} {s : AV} {cs c : Value} (hs0 : AV.val e s cs) {ys : List Tr} {news : List Value} (hny : Tr.row e.ro esz ys news)
    (hsrc : Go.Src X.P esz tx c ys.length news w) {k : AV → Hp → T} (h : sat X Q (appendK inn esz bytes H s ys k)) :
    ∃ v cv e' H' w', (Builtin.append_ #[t, tx] ty #[cs, c]).run X.P w = .ok cv w' ∧ AV.val e' v cv ∧ Step X.G e H w e' H' w' ∧ sat X Q (k v H') := by
  obtain ⟨i, z, hi, hsz, hby, hz, hzs, hzo⟩ := hT.info
  have empty0 {base : Option Addr} {es : Nat} (hcs : cs = .slice base 0 0) (h2 : sat X Q (.asrt (roomy ys.length bytes) (newK (.row es ys) H fun b H' => k (.sl b 0 [] 0 ys.length none) H'))) (he : es = esz) :
      ∃ v cv e' H' w', (Builtin.append_ #[t, tx] ty #[cs, c]).run X.P w = .ok cv w' ∧ AV.val e' v cv ∧ Step X.G e H w e' H' w' ∧ sat X Q (k v H') := by
    subst he
    obtain ⟨hroom, h2⟩ := h2
    rw [newK_eq] at h2
    by_cases hn : ys.length = 0
    · have hys : ys = [] := List.length_eq_zero_iff.1 hn
      subst hys
      have hnews : news = [] := by simpa [Tr.row] using hny
      subst hnews
      have hrun := run_append_nothing w t tx ty el i hT.ht hi base 0 0 (Nat.le_refl 0) c (by rw [hsz]; exact hsrc)
      refine ⟨_, _, _, _, _, by rw [hcs]; exact hrun, ?_, Step.virt hr es, h2⟩
      simp only [AV.val, AV.leaf]
      exact slRel_virt (e.bind_same _ _)
    · obtain ⟨v, w', cap, h1, h22, h3⟩ := grow_row (sLen := 0) (sCap := 0) (xs := []) (olds := []) (base := base) (ty := ty) hr hT (by
        cases base with
        | none => rfl
        | some ad => simp [Builtin.firstCells, loadCells, loadCellsFrom]) (by simp [Tr.row]) rfl hny hsrc (by omega) (by simpa using hroom)
      simp only [List.nil_append, Nat.zero_add] at h22 h3
      exact ⟨_, v, _, _, w', by rw [hcs]; exact h1, h3, h22, h2⟩
  unfold appendK at h
  split at h
  · rename_i es
    simp only [AV.val, Tr.isAgg] at hs0
    obtain ⟨base, hb⟩ := nil_rel hs0
    exact empty0 (by simpa using hb) h rfl
  · rename_i b o p off len cap
    obtain ⟨ob, hob, h⟩ := sat_nthK h
    cases ob with
    | var _ => exact h.elim
    | map _ => exact h.elim
    | gone => exact h.elim
    | mapI es i => exact h.elim
    | iter m es left last => exact h.elim
    | dr e' ms h' => exact h.elim
    | row es xs =>
      cases p with
      | cons _ _ => exact h.elim
      | nil =>
        simp only at h
        obtain ⟨he, h⟩ := sat_off' h
        have he := beq_eq he
        subst he
        simp only [AV.val, AV.leaf] at hs0
        rcases hs0 with ⟨hβ, rfl, _, rfl, rfl, hcp, base, hc⟩ | ⟨blk, es', rc, nn, base, cp, hβ, hc, hle, hin, hcap, hbase⟩
        · -- an empty one of the own
          have hc : cs = .slice base 0 0 := by simpa using hc
          obtain ⟨es', he' | he'⟩ := hr.virt b _ hob (by simp) hβ
          case inr => cases he'
          obtain ⟨rfl, rfl⟩ := AO.row.inj he'
          cases cap with
          | some c0 =>
            obtain rfl : c0 = 0 := by simpa using hcp
            exact empty0 hc h rfl
          | none =>
            cases inn with
            | true =>
              obtain ⟨hb, h⟩ := h
              have hb := of_decide_eq_true hb
              have hys : ys = [] := by rw [← List.length_eq_zero_iff]; simpa using hb
              subst hys
              obtain ⟨_, h⟩ := sat_setK h
              have hnews : news = [] := by simpa [Tr.row] using hny
              subst hnews
              have hrun := run_append_nothing w t tx ty el i hT.ht hi base 0 0 (Nat.le_refl 0) c (by rw [hsz]; exact hsrc)
              refine ⟨_, _, e, _, w, by rw [hc]; exact hrun, ?_, ?_, h⟩
              · simp only [AV.val, AV.leaf]; exact slRel_virt hβ
              · have : H.set b (.row es (over [] 0 [])) = H := by
                  apply List.ext_getElem?
                  intro j
                  rw [List.getElem?_set]
                  by_cases hj : b = j
                  · subst hj; rw [if_pos rfl, if_pos (lt_of_get hob), hob]; simp [over]
                  · rw [if_neg hj]
                simpa [this] using Step.refl hr
            | false =>
              obtain ⟨_, hroom, h⟩ := h
              obtain ⟨_, h⟩ := sat_setK (h.1 rfl)
              rw [newK_eq] at h
              have hg := Step.gone hr b
              have hsrc' := hsrc
              by_cases hn : ys.length = 0
              · have hys : ys = [] := List.length_eq_zero_iff.1 hn
                subst hys
                have hnews : news = [] := by simpa [Tr.row] using hny
                subst hnews
                have hrun := run_append_nothing w t tx ty el i hT.ht hi base 0 0 (Nat.le_refl 0) c (by rw [hsz]; exact hsrc)
                refine ⟨_, _, _, _, _, by rw [hc]; exact hrun, ?_, hg.trans (Step.virt hg.rel es), h⟩
                simp only [AV.val, AV.leaf]
                exact slRel_virt (e.bind_same _ _)
              · obtain ⟨v, w', cap, h1, h2, h3⟩ := grow_row (sLen := 0) (sCap := 0) (xs := []) (olds := []) (base := base) (ty := ty) hg.rel hT (by
                  cases base with
                  | none => rfl
                  | some ad => simp [Builtin.firstCells, loadCells, loadCellsFrom]) (by simp [Tr.row]) rfl hny hsrc (by omega) (by simpa using hroom)
                simp only [List.nil_append, Nat.zero_add] at h2 h3
                exact ⟨_, v, _, _, w', by rw [hc]; exact h1, h3, hg.trans h2, h⟩
        · have hc : cs = .slice base len cp := by simpa using hc
          obtain ⟨oo, hoo, hrel⟩ := hr.obj b _ hob (by simp) _ _ _ _ hβ
          obtain ⟨rfl, hn, cc, tt, fz, rfl, hfz, hcsz, hxc, hones, mid, post, hcs, hrow⟩ := hrel
          obtain ⟨hin1, rfl, hin2⟩ := hin _ hn
          have hs0 : Sub cc.toList 0 mid := ⟨[], post, by simpa using hcs, rfl⟩
          have hl := Tr.row_length hny
          have hml := Tr.row_length hrow
          -- the olds
          have holds : len ≠ 0 → ∃ olds, Sub cc.toList (off * es) olds ∧ Tr.row e.ro es ((xs.drop off).take len) olds := by
            intro _
            obtain ⟨mid2, hs2, hr2⟩ := Tr.row_cut hrow off len
            rw [Nat.min_eq_left (by omega)] at hs2
            exact ⟨mid2, by simpa using hs0.trans hs2, hr2⟩
          have hxlen : ((xs.drop off).take len).length = len := by simp; omega
          have olds_run : ∃ olds, (Builtin.firstCells es len (.slice base len cp)).run X.P w.drew = .ok olds.toArray w.drew ∧ Tr.row e.ro es ((xs.drop off).take len) olds := by
            by_cases h0 : len = 0
            · refine ⟨[], ?_, ?_⟩
              · subst h0
                cases base with
                | none => rfl
                | some ad => simp [Builtin.firstCells, loadCells, loadCellsFrom]
              · have : (xs.drop off).take len = [] := List.length_eq_zero_iff.1 (by rw [hxlen]; exact h0)
                rw [this]; simp [Tr.row]
            · obtain ⟨olds, ho1, ho2⟩ := holds h0
              refine ⟨olds, ?_, ho2⟩
              rcases hbase with hz0 | rfl
              · omega
              · have hlo := Tr.row_length ho2
                rw [hxlen] at hlo
                have := run_loadCells_sub (P := X.P) (w := w.drew) (k := blk) (cs := cc) (t := tt) (fz := fz) hoo ho1
                simp only [Builtin.firstCells, ← hlo]
                simpa using this
          -- in place
          have place (hroom : len + ys.length ≤ cp) (hfit : off + len + ys.length ≤ xs.length) (capN : Option Nat)
              (hcn : match capN with
                | some k => cp = k
                | none => (0 : Nat) = 0 ∧ ([] : List Nat) = [] ∧ off ≤ rc ∧ cp = rc - off) (hcn2 : off + capN.getD 0 ≤ xs.length)
              (h : sat X Q (k (.sl b 0 [] off (len + ys.length) capN) (H.set b (.row es (over xs (off + len) ys))))) :
              ∃ v cv e' H' w', (Builtin.append_ #[t, tx] ty #[cs, c]).run X.P w = .ok cv w' ∧ AV.val e' v cv ∧ Step X.G e H w e' H' w' ∧ sat X Q (k v H') := by
            by_cases h0 : ys.length = 0
            · have hys : ys = [] := List.length_eq_zero_iff.1 h0
              subst hys
              have hnews : news = [] := by simpa [Tr.row] using hny
              subst hnews
              have hrun := run_append_nothing w t tx ty el i hT.ht hi base len cp hle c (by rw [hsz]; exact hsrc)
              have he : H.set b (.row es (over xs (off + len) [])) = H := by
                apply List.ext_getElem?
                intro j
                rw [List.getElem?_set]
                by_cases hj : b = j
                · subst hj; rw [if_pos rfl, if_pos (lt_of_get hob), hob]; simp [over]
                · rw [if_neg hj]
              rw [he] at h
              refine ⟨_, _, e, H, w, by rw [hc]; exact hrun, ?_, Step.refl hr, h⟩
              simp only [AV.val, AV.leaf]
              refine .inr ⟨blk, es, rc, nn, base, cp, hβ, by simp, by simpa using hle, fun n' hn' => ?_, hcn, hbase⟩
              rw [hn] at hn'; obtain rfl := Option.some.inj hn'
              simp; omega
            · have hb1 : base = some ⟨blk, 0 + off * es, none⟩ := by
                rcases hbase with hz0 | hz0
                · omega
                · exact hz0
              have hstore := run_storeCells_over (P := X.P) (k := blk) (t := tt) (fz := fz) (off * es + len * es) news 0 cc w hoo hfz (by
                rw [Nat.add_zero, hl, ← Nat.add_mul, ← Nat.add_mul, hcsz]
                exact Nat.mul_le_mul_right _ (by omega)) (fun u hu => Tr.row_one hny u hu)
              have hrun := append_room (P := X.P) t tx ty el i hT.ht hi blk (0 + off * es) len cp c ys.length news (by rw [hsz]; exact hsrc) hroom (by rw [hsz]; simpa using hstore)
              have hrow' := Tr.row_over hrow hny (off + len) (by omega)
              have hsub : Sub mid ((off + len) * es) ((mid.drop ((off + len) * es)).take news.length) := by
                refine ⟨mid.take ((off + len) * es), (mid.drop ((off + len) * es)).drop news.length, ?_, ?_⟩
                · rw [List.take_append_drop, List.take_append_drop]
                · rw [List.length_take, Nat.min_eq_left]; rw [hml]; exact Nat.mul_le_mul_right _ (by omega)
              have hsl : ((mid.drop ((off + len) * es)).take news.length).length = news.length := by
                rw [List.length_take, List.length_drop, Nat.min_eq_left]
                rw [hml, hl, ← Nat.sub_mul]; exact Nat.mul_le_mul_right _ (by omega)
              have hover : over cc.toList ((off + len) * es) news = over mid ((off + len) * es) news ++ post := by
                have := over_over hs0 hsub (mid' := news) hsl.symm
                rw [Nat.zero_add] at this
                rw [← this]
                have hl2 : (over mid ((off + len) * es) news).length = mid.length := over_length _ _ _ (by have := hsub.len; omega)
                have h3 := over_pre (pre := []) (mid := mid) (post := post) hl2
                rw [hcs]
                simpa using h3
              have hcl : (over cc.toList ((off + len) * es) news).length = cc.toList.length := over_length _ _ _ (by
                have h1 := (hs0.trans hsub).len; rw [hsl] at h1; omega)
              have hstep := Step.set hr hob (by simp) hβ (o' := .row es (over xs (off + len) ys)) (ob' := .cells (over cc.toList ((off + len) * es) news).toArray tt fz)
                ⟨rfl, by rw [hn, over_length _ _ _ (by omega)], _, tt, fz, rfl, by rw [List.size_toArray, hcl]; simpa using hfz, by rw [List.size_toArray, hcl]; simpa using hcsz, by rw [over_length _ _ _ (by omega)]; exact hxc, by
                  intro c1 hc1
                  simp only [over, List.mem_append] at hc1
                  rcases hc1 with (hc1 | hc1) | hc1
                  · exact hones c1 (List.mem_of_mem_take hc1)
                  · exact Tr.row_one hny c1 hc1
                  · exact hones c1 (List.mem_of_mem_drop hc1), _, post, by simpa using hover, hrow'⟩
              refine ⟨_, _, e, _, _, by rw [hc, hb1]; exact hrun, ?_, ?_, h⟩
              · simp only [AV.val, AV.leaf]
                refine .inr ⟨blk, es, rc, nn, _, cp, hβ, by simp, hroom, fun n' hn' => ?_, hcn, .inr rfl⟩
                rw [hn] at hn'; obtain rfl := Option.some.inj hn'
                exact ⟨by omega, rfl, hcn2⟩
              · have e1 : off * es + len * es = (off + len) * es := by rw [Nat.add_mul]
                simp only [e1]; exact hstep
          cases cap with
          | some c0 =>
            simp only at hcap
            subst hcap
            cases cp with
            | zero =>
              have hl0 : len = 0 := by omega
              subst hl0
              exact empty0 hc h rfl
            | succ c1 =>
              simp only [Option.getD_some] at hin2
              by_cases hroom : len + ys.length ≤ c1 + 1
              · have h := h.1 (by simpa using hroom)
                obtain ⟨_, h⟩ := sat_setK h
                exact place hroom (by omega) (some (c1 + 1)) rfl (by simpa using hin2) h
              · obtain ⟨hrm, h⟩ := h.2 (by simpa using hroom)
                rw [newK_eq] at h
                obtain ⟨olds, ho1, ho2⟩ := olds_run
                obtain ⟨v, w', cap, h1, h2, h3⟩ := grow_row (ty := ty) hr hT ho1 ho2 hxlen hny hsrc (by omega) hrm
                exact ⟨_, v, _, _, w', by rw [hc]; exact h1, h3, h2, h⟩
          | none =>
            simp only at hcap
            cases inn with
            | true =>
              obtain ⟨hb, h⟩ := h
              have hb := of_decide_eq_true hb
              obtain ⟨_, h⟩ := sat_setK h
              exact place (by omega) hb none ⟨rfl, rfl, hcap.2.2.1, hcap.2.2.2⟩ (by simp; omega) h
            | false =>
              obtain ⟨hb, hrm, hz1⟩ := h
              obtain ⟨hb1, hb2⟩ := of_decide_eq_true hb
              have hz2 : sat X Q (k (.sl (H.set b .gone).length 0 [] 0 (xs.take len ++ ys).length none) (H.set b .gone ++ [.row es (xs.take len ++ ys)])) := by
                cases hbl : Nat.beq len xs.length with
                | true =>
                  obtain ⟨_, hz3⟩ := sat_setK (hz1.1 hbl)
                  rw [newK_eq] at hz3
                  have := beq_eq hbl
                  rw [this, List.take_length]
                  exact hz3
                | false =>
                  obtain ⟨_, hz3⟩ := sat_setK (hz1.2 hbl)
                  rw [newK_eq] at hz3
                  exact hz3
              subst hb1
              have hob0 := hob
              obtain ⟨mid0, post0, hmid, hrow0, _⟩ := Tr.row_split (xs := xs.take len) (ys := xs.drop len) (cs := mid) (by rw [List.take_append_drop]; exact hrow)
              have hcs0 : cc.toList = mid0 ++ (post0 ++ post) := by rw [hcs, hmid, List.append_assoc]
              have hxc0 : (xs.take len).length ≤ rc := by rw [List.length_take]; omega
              have hlen0 : len = (xs.take len).length := by rw [List.length_take]; omega
              have hml0 := Tr.row_length hrow0
              obtain ⟨olds, ho1, ho2⟩ := olds_run
              have hxd : (xs.drop 0).take len = xs.take len := by simp
              rw [hxd] at ho2 hxlen
              generalize hxs' : xs.take len = xs' at *
              clear hrow hcs hml hxc
              have hrow := hrow0
              have hcs := hcs0
              have hxc := hxc0
              have hml := hml0
              generalize post0 ++ post = post at *
              generalize mid0 = mid at *
              subst hlen0
              have h := hz2
              by_cases hroom : xs'.length + ys.length ≤ cp
              · -- in place
                have hrow2 := Tr.row_append hrow hny
                have fin (ob' : Obj) (w' : World) (hw : w' = World.setBlk w blk ob') (ho : (AO.row es (xs' ++ ys)).rel e es rc (some (xs' ++ ys).length) ob')
                    (hrun : (Builtin.append_ #[t, tx] ty #[.slice base xs'.length cp, c]).run X.P w = .ok (.slice base (xs'.length + ys.length) cp) w') (hbb : cp = 0 ∨ base = some ⟨blk, 0 + 0 * es, none⟩) :
                    ∃ v cv e' H' w', (Builtin.append_ #[t, tx] ty #[cs, c]).run X.P w = .ok cv w' ∧ AV.val e' v cv ∧ Step X.G e H w e' H' w' ∧ sat X Q (k v H') := by
                  have hst := Step.rename hr hob (by simp) hβ (o' := .row es (xs' ++ ys)) (ob' := ob') ho
                  subst hw
                  refine ⟨_, _, _, _, _, by rw [hc]; exact hrun, ?_, hst, h⟩
                  simp only [AV.val, AV.leaf, List.length_set]
                  refine .inr ⟨blk, es, rc, _, _, cp, e.bind_same _ _, by simp, by simpa using hroom, fun n' hn' => ?_, ⟨rfl, rfl, hcap.2.2.1, hcap.2.2.2⟩, hbb⟩
                  obtain rfl := Option.some.inj hn'
                  simp
                by_cases h0 : ys.length = 0
                · have hys : ys = [] := List.length_eq_zero_iff.1 h0
                  subst hys
                  have hnews : news = [] := by simpa [Tr.row] using hny
                  subst hnews
                  have hrun := run_append_nothing w t tx ty el i hT.ht hi base xs'.length cp hle c (by rw [hsz]; exact hsrc)
                  exact fin (.cells cc tt fz) w (setBlk_self hoo).symm ⟨rfl, rfl, cc, tt, fz, rfl, hfz, hcsz, by simpa using hxc, hones, mid, post, hcs, by simpa using hrow⟩ (by simpa using hrun) hbase
                · have hb1 : base = some ⟨blk, 0 + 0 * es, none⟩ := by
                    rcases hbase with hz0 | hz0
                    · omega
                    · exact hz0
                  have hcl0 : cc.toList.length = rc * es := by simpa using hcsz
                  have hfit : xs'.length * es + news.length ≤ cc.toList.length := by
                    rw [hl, ← Nat.add_mul, hcl0]; exact Nat.mul_le_mul_right _ (by omega)
                  have hstore := run_storeCells_over (P := X.P) (k := blk) (t := tt) (fz := fz) (xs'.length * es) news 0 cc w hoo hfz (by simpa using hfit) (fun u hu => Tr.row_one hny u hu)
                  have hrun := append_room (P := X.P) t tx ty el i hT.ht hi blk (0 + 0 * es) xs'.length cp c ys.length news (by rw [hsz]; exact hsrc) hroom (by rw [hsz]; simpa using hstore)
                  have hcl : (over cc.toList (xs'.length * es) news).length = cc.toList.length := over_length _ _ _ hfit
                  have hov : over cc.toList (xs'.length * es) news = (mid ++ news) ++ post.drop news.length := by
                    rw [hcs]
                    simp only [over, ← hml, List.take_append_of_le_length (Nat.le_refl _), List.take_of_length_le (Nat.le_refl _), List.drop_append, Nat.add_sub_cancel_left]
                    rw [List.drop_eq_nil_of_le (by omega)]; simp
                  refine fin (.cells (over cc.toList (xs'.length * es) news).toArray tt fz) _ rfl ⟨rfl, rfl, _, tt, fz, rfl, by rw [List.size_toArray, hcl]; simpa using hfz, by rw [List.size_toArray, hcl]; simpa using hcsz, by simp; omega, by
                    intro c1 hc1
                    simp only [over, List.mem_append] at hc1
                    rcases hc1 with (hc1 | hc1) | hc1
                    · exact hones c1 (List.mem_of_mem_take hc1)
                    · exact Tr.row_one hny c1 hc1
                    · exact hones c1 (List.mem_of_mem_drop hc1), mid ++ news, post.drop news.length, by simpa using hov, hrow2⟩ ?_ (.inr hb1)
                  rw [hb1]
                  simpa using hrun
              · have hg := Step.gone hr b
                obtain ⟨v, w', cap, h1, h2, h3⟩ := grow_row (ty := ty) hg.rel hT ho1 ho2 rfl hny hsrc (by omega) hrm
                refine ⟨_, v, _, _, w', by rw [hc]; exact h1, ?_, hg.trans h2, h⟩
                simpa using h3
  · exact h.elim
end Stk
end
