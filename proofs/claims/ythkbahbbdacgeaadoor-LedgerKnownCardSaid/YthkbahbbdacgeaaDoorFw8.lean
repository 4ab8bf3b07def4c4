/- The framework, part 8: cuts. -/
import Derived.Test.YthkbahbbdacgeaaDoorFw7
namespace Stk
open Go
variable {X : Cx} {Q : Ex → Fr → Hp → Prop} {e : Env} {H : Hp} {w : World}

def chkOO (G : Gl) : Option Opd → Option Operand → Bool
  | none, none => true
  | some x, some y => chkOpd G x y
  | _, _ => false
/-- A bound that is there, or not. -/
def OInt (n : Option Int) (v : Option Value) : Prop :=
  match n, v with
  | none, none => True
  | some n, some v => ∃ j, v = .int j n
  | _, _ => False
theorem sat_ointK {fr : Fr} {a : Act} (hr : Rel X.G e H w) (hf : FrR X.N e fr a) {x : Option Opd} {x' : Option Operand} (hx : chkOO X.G x x' = true) {k : Option Int → T} (h : sat X Q (ointK fr x k)) :
    ∃ n, OInt n (x'.map a.eval) ∧ sat X Q (k n) := by
  cases x with
  | none => cases x' with
    | none => exact ⟨none, trivial, h⟩
    | some y => simp [chkOO] at hx
  | some x => cases x' with
    | none => simp [chkOO] at hx
    | some y =>
      simp only [ointK, evK_eq] at h
      obtain ⟨j, n, hn, h⟩ := sat_intK h
      have hv := chkOpd_val hr hf (x := x) (y := y) hx
      rw [hn] at hv
      exact ⟨some n, ⟨j, val_int hv⟩, h⟩

theorem run_sliceBound {P : Program} {j : IntKind} {i : Int} {y : Nat} {code : BoundsCode} (h0 : 0 ≤ i) (h1 : i ≤ y) (w : World) : (Instr.sliceBound (.int j i) y code).run P w = .ok i.toNat w := by
  simp only [Instr.sliceBound, asIntOf, Sem.run_bind, Sem.run_pure, Result.andThen]
  rw [if_pos ⟨h0, h1⟩]; rfl

def lowRun (v : Option Value) (h : Nat) (code : BoundsCode) : Sem Nat :=
  match v with
  | some v => Instr.sliceBound v h code
  | none => pure 0
theorem cut_sound {len top top' : Nat} {lo hi : Option Int} {vlo vhi : Option Value} (hlo : OInt lo vlo) (hhi : OInt hi vhi) (ht : top ≤ top') {k : Nat → Nat → T} (h : sat X Q (cutK len top lo hi k)) :
    ∃ l h', l ≤ h' ∧ (hi = none → h' = len) ∧ (∀ x, hi = some x → h' ≤ top ∧ x = (h' : Int)) ∧ sat X Q (k l h') ∧
      ∀ P b, (Instr.sliceBounds b len top' vlo vhi none).run P w = .ok (l, h', top') w := by
  have low (hh : Nat) (hs : sat X Q (lowK lo hh k)) : ∃ l, l ≤ hh ∧ sat X Q (k l hh) ∧ ∀ P code, (lowRun vlo hh code).run P w = .ok l w := by
    cases lo with
    | none => cases vlo with
      | none => exact ⟨0, Nat.zero_le _, hs, fun P code => rfl⟩
      | some v => exact hlo.elim
    | some l => cases vlo with
      | none => exact hlo.elim
      | some v =>
        obtain ⟨j, rfl⟩ := hlo
        obtain ⟨hb, hs⟩ := hs
        have hb := of_decide_eq_true hb
        exact ⟨l.toNat, by omega, hs, fun P code => run_sliceBound hb.1 hb.2 w⟩
  unfold cutK at h
  cases hi with
  | none => cases vhi with
    | some v => exact hhi.elim
    | none =>
      obtain ⟨l, h1, h2, h3⟩ := low len h
      refine ⟨l, len, h1, fun _ => rfl, by simp, h2, fun P b => ?_⟩
      have h4 := h3 P .sliceB
      simp only [Instr.sliceBounds, Sem.run_bind, Sem.run_pure, Result.andThen, Option.isSome]
      cases vlo <;> simp_all [lowRun]
  | some x => cases vhi with
    | none => exact hhi.elim
    | some v =>
      obtain ⟨j, rfl⟩ := hhi
      simp only [sat] at h
      obtain ⟨hb, h⟩ := h
      have hb := of_decide_eq_true hb
      obtain ⟨l, h1, h2, h3⟩ := low x.toNat h
      refine ⟨l, x.toNat, h1, by simp, fun y hy => by obtain rfl := Option.some.inj hy; omega, h2, fun P b => ?_⟩
      have h4 := h3 P .sliceB
      have h5 : ∀ code, (Instr.sliceBound (.int j x) top' code).run P w = .ok x.toNat w := fun code => run_sliceBound hb.1 (by omega) w
      simp only [Instr.sliceBounds, Sem.run_bind, Sem.run_pure, Result.andThen, Option.isSome, h5]
      cases vlo <;> simp_all [lowRun]

theorem cut3_sound {len top top' : Nat} {lo : Option Int} {hi m : Int} {vlo : Option Value} {vhi vm : Value} {j1 j2 : IntKind} (hlo : OInt lo vlo) (hhi : vhi = .int j1 hi) (hm : vm = .int j2 m) (hm0 : 0 ≤ m) (hmt : m ≤ top') (ht : top = m.toNat ∨ (hi = m)) {k : Nat → Nat → T} (h : sat X Q (cutK len top lo (some hi) k)) :
    ∃ l h', l ≤ h' ∧ h' ≤ m.toNat ∧ h' ≤ top ∧ hi = (h' : Int) ∧ sat X Q (k l h') ∧
      ∀ P b, (Instr.sliceBounds b len top' vlo (some vhi) (some vm)).run P w = .ok (l, h', m.toNat) w := by
  subst hhi hm
  unfold cutK at h
  simp only [sat] at h
  obtain ⟨hb, h⟩ := h
  have hb := of_decide_eq_true hb
  have h5 : ∀ P code, (Instr.sliceBound (.int j2 m) top' code).run P w = .ok m.toNat w := fun P code => run_sliceBound hm0 hmt w
  have h6 : ∀ P code, (Instr.sliceBound (.int j1 hi) m.toNat code).run P w = .ok hi.toNat w := fun P code => run_sliceBound hb.1 (by omega) w
  cases lo with
  | none => cases vlo with
    | some v => exact hlo.elim
    | none =>
      refine ⟨0, hi.toNat, Nat.zero_le _, by omega, by omega, by omega, h, fun P b => ?_⟩
      simp only [Instr.sliceBounds, Sem.run_bind, Sem.run_pure, Result.andThen, h5, h6]
  | some l => cases vlo with
    | none => exact hlo.elim
    | some v =>
      obtain ⟨j, rfl⟩ := hlo
      obtain ⟨hc, h⟩ := h
      have hc := of_decide_eq_true hc
      refine ⟨l.toNat, hi.toNat, by omega, by omega, by omega, by omega, h, fun P b => ?_⟩
      have h7 : ∀ code, (Instr.sliceBound (.int j l) hi.toNat code).run P w = .ok l.toNat w := fun code => run_sliceBound hc.1 hc.2 w
      simp only [Instr.sliceBounds, Sem.run_bind, Sem.run_pure, Result.andThen, Option.isSome, h5, h6, h7]

theorem op_sliceS {t : TypeId} {x : Opd} {x' : Operand} {lo hi : Option Opd} {lo' hi' : Option Operand} (hx : chkOpd X.G x x' = true) (h1 : chkOO X.G lo lo' = true) (h2 : chkOO X.G hi hi' = true) (ht : X.P.underlying t = some .string) :
    OpS0 X (.slice t x' lo' hi' none) (.sliceS x lo hi) := by
  intro o ho e H w fr a Q k hr hf hs
  have hxv := chkOpd_val hr hf hx
  simp only [opT, evK_eq] at hs
  obtain ⟨l, hl, hs⟩ := sat_ointK hr hf h1 hs
  obtain ⟨h, hh, hs⟩ := sat_ointK hr hf h2 hs
  split at hs
  · rename_i s hxa
    rw [hxa] at hxv
    obtain ⟨l', h', hle, _, _, hs, hrun⟩ := cut_sound (w := w) hl hh (Nat.le_refl _) hs
    have : (execOp a.eval o).run X.P w = .ok (.value (.string (s.extract l' h'))) w := by
      simp only [execOp, ho]
      refine run_v ?_
      rw [val_str hxv]
      simp only [Instr.sliceAt, Sem.run_bind, run_under ht, Result.andThen, Instr.slice, Option.map_none, Option.isSome]
      have := hrun X.P false
      simp [this, Result.andThen]
    rw [this]
    exact Out.same hr (mk_str _ _) hs
  · exact hs.elim

theorem eszK_sound {esz b : Nat} {k : Nat → T} (h : sat X Q (eszK esz H b k)) (hr : Rel X.G e H w) {blk es rc : Nat} {n : Option Nat} (hβ : e.β b = .at blk es rc n) : es = esz ∧ ∃ rl, sat X Q (k rl) ∧ (rl = 0 ∨ (n = some rl ∧ rl ≤ rc)) := by
  unfold eszK at h
  obtain ⟨ob, hob, h⟩ := sat_nthK h
  cases ob with
  | row e' xs =>
    obtain ⟨_, _, hrel⟩ := hr.obj b _ hob (by simp) _ _ _ _ hβ
    obtain ⟨he, hk⟩ := sat_t h
    have he := beq_eq he
    refine ⟨by rw [← he, hrel.1], _, hk, .inr ⟨hrel.2.1, ?_⟩⟩
    obtain ⟨_, _, _, _, _, _, _, _, h5, _⟩ := hrel
    exact h5
  | var v =>
    obtain ⟨_, _, hrel⟩ := hr.obj b _ hob (by simp) _ _ _ _ hβ
    obtain ⟨he, hk⟩ := sat_t h
    have he := beq_eq he
    exact ⟨by rw [hrel.2.1, he], _, hk, .inl rfl⟩
  | map es => exact h.elim
  | gone => exact h.elim
theorem eszK_cont {esz b : Nat} {k : Nat → T} (h : sat X Q (eszK esz H b k)) : ∃ rl, sat X Q (k rl) ∧ ((∃ ys, H[b]? = some (.row esz ys) ∧ rl = ys.length) ∨ rl = 0) := by
  unfold eszK at h
  obtain ⟨ob, hob, h⟩ := sat_nthK h
  cases ob with
  | row e' xs => 
    obtain ⟨he, hk⟩ := sat_t h
    have he := beq_eq he
    subst he
    exact ⟨_, hk, .inl ⟨xs, hob, rfl⟩⟩
  | var v => exact ⟨_, (sat_t h).2, .inr rfl⟩
  | map es => exact h.elim
  | gone => exact h.elim


/-- a stretch of read-only memory, cut -/
theorem ro_cut {esz : Nat} {xs : List Tr} {base : Option Addr} {holds : Nat → List Value → Prop} {m : Nat → Option (List Value)}
    (hh : xs = [] ∨ ∃ ad mem mid, base = some ad ∧ ad.spot = none ∧ holds ad.block mem ∧ Sub mem ad.off mid ∧ Tr.row m esz xs mid) {l h : Nat} (hle : l ≤ h) (hhx : h ≤ xs.length) :
    (xs.take h).drop l = [] ∨ ∃ ad mem mid, base.map (·.add (l * esz)) = some ad ∧ ad.spot = none ∧ holds ad.block mem ∧ Sub mem ad.off mid ∧ Tr.row m esz ((xs.take h).drop l) mid := by
  rcases hh with rfl | ⟨ad, mem, mid, rfl, hsp, hm, hsub, hrow⟩
  · left; simp
  · right
    obtain ⟨mid2, hs2, hr2⟩ := Tr.row_cut hrow l (h - l)
    rw [Nat.min_eq_left (by omega)] at hs2
    have e1 : ad.add (l * esz) = ⟨ad.block, ad.off + l * esz, none⟩ := by
      have := add_off ad.block ad.off (l * esz)
      rw [← addr_eta hsp] at this; exact this
    refine ⟨⟨ad.block, ad.off + l * esz, none⟩, mem, mid2, by simp [e1], rfl, hm, hsub.trans hs2, ?_⟩
    rw [List.drop_take]; exact hr2

theorem op_slice {t el : TypeId} {esz : Nat} {x : Opd} {x' : Operand} {lo hi mx : Option Opd} {lo' hi' mx' : Option Operand} (hx : chkOpd X.G x x' = true) (h1 : chkOO X.G lo lo' = true) (h2 : chkOO X.G hi hi' = true) (h3 : chkOO X.G mx mx' = true)
    (ht : X.P.underlying t = some (.slice el)) (hsz : (X.P.info? el).map (·.size) = some esz) :
    OpS0 X (.slice t x' lo' hi' mx') (.slice esz x lo hi mx) := by
  intro o ho e H w fr a Q k hr hf hs
  have hxv := chkOpd_val hr hf hx
  simp only [opT, evK_eq] at hs
  obtain ⟨l, hl, hs⟩ := sat_ointK hr hf h1 hs
  obtain ⟨h, hh, hs⟩ := sat_ointK hr hf h2 hs
  obtain ⟨m, hm, hs⟩ := sat_ointK hr hf h3 hs
  have run {ad : Option Addr} {n c l' h' m' : Nat} (hc : a.eval x' = .slice ad n c) (hb : ∀ P b, (Instr.sliceBounds b n c (lo'.map a.eval) (hi'.map a.eval) (mx'.map a.eval)).run P w = .ok (l', h', m') w) :
      (execOp a.eval o).run X.P w = .ok (.value (.slice (if m' = l' then ad else ad.map (·.add (l' * esz))) (h' - l') (m' - l'))) w := by
    simp only [execOp, ho]
    refine run_v ?_
    rw [hc]
    simp only [Instr.sliceAt, Sem.run_bind, run_under ht, Result.andThen, Instr.slice, hb X.P true, run_sizeOf hsz]
    rfl
  have nomax : m = none → mx'.map a.eval = none := by
    rintro rfl
    cases hmm : mx'.map a.eval with
    | none => rfl
    | some v => rw [hmm] at hm; exact hm.elim
  have somemax {n : Int} : m = some n → ∃ j, mx'.map a.eval = some (.int j n) := by
    rintro rfl
    cases hmm : mx'.map a.eval with
    | none => rw [hmm] at hm; exact hm.elim
    | some v => rw [hmm] at hm; obtain ⟨j, rfl⟩ := hm; exact ⟨j, rfl⟩
  have somehi {n : Int} : h = some n → ∃ j, hi'.map a.eval = some (.int j n) := by
    rintro rfl
    cases hmm : hi'.map a.eval with
    | none => rw [hmm] at hh; exact hh.elim
    | some v => rw [hmm] at hh; obtain ⟨j, rfl⟩ := hh; exact ⟨j, rfl⟩
  unfold sliceK at hs
  split at hs
  · rename_i full e' xs hxa
    rw [hxa] at hxv
    simp only [AV.val, Tr.isAgg, Tr.rel] at hxv
    obtain ⟨base, cap, hc, hfull, hcap, hro⟩ := hxv
    have hc : a.eval x' = .slice base xs.length cap := by simpa using hc
    obtain ⟨he, hs⟩ := sat_off' hs
    have he := beq_eq he
    subst he
    cases m with
    | none =>
      have hmx := nomax rfl
      cases h with
      | none =>
        obtain ⟨l', h', hle, hn, _, hs, hrun⟩ := cut_sound (w := w) hl hh hcap hs
        have hn := hn rfl
        subst hn
        rw [run hc (by rw [hmx]; exact hrun)]
        refine Out.same hr ?_ hs
        have e1 : (xs.take xs.length).drop l' = xs.drop l' := by rw [List.take_of_length_le (Nat.le_refl _)]
        simp only [AV.val, Tr.isAgg, Tr.rel]
        refine ⟨_, _, by simp only [List.length_drop]; rfl, ?_, by simp; omega, ?_⟩
        · intro hf1; have := hfull hf1; simp; omega
        · rcases ro_cut (holds := fun k mem => e.ro k = some mem) hro hle (Nat.le_refl _) with hz | hz
          · left; rw [e1] at hz; exact hz
          · by_cases hcl : cap = l'
            · left; simp; omega
            · rw [if_neg hcl, ← e1]; exact .inr hz
      | some hv =>
        obtain ⟨l', h', hle, _, hx1, hs, hrun⟩ := cut_sound (w := w) hl hh hcap hs
        obtain ⟨hx1, _⟩ := hx1 _ rfl
        rw [run hc (by rw [hmx]; exact hrun)]
        refine Out.same hr ?_ hs
        simp only [AV.val, Tr.isAgg, Tr.rel]
        have hlen : ((xs.take h').drop l').length = h' - l' := by simp; omega
        refine ⟨_, _, by rw [hlen], by simp, by rw [hlen]; omega, ?_⟩
        rcases ro_cut (holds := fun k mem => e.ro k = some mem) hro hle hx1 with hz | hz
        · exact .inl hz
        · by_cases hcl : cap = l'
          · left; rw [← List.length_eq_zero_iff, hlen]; omega
          · rw [if_neg hcl]; exact .inr hz
    | some mv =>
      obtain ⟨jm, hmx⟩ := somemax rfl
      cases h with
      | none => exact hs.elim
      | some hv =>
        obtain ⟨jh, hhx⟩ := somehi rfl
        simp only [sat] at hs
        obtain ⟨hmh, hs⟩ := hs
        have hmh : mv = hv := by simpa using hmh
        subst hmh
        have hs0 := hs
        unfold cutK at hs0
        have hb0 := of_decide_eq_true hs0.1
        obtain ⟨l', h', hle, hx0, hx1, hx2, hs, hrun⟩ := cut3_sound (w := w) (top' := cap) hl rfl rfl hb0.1 (by omega) (.inr rfl) (vhi := .int jh mv) (vm := .int jm mv) hs
        rw [run hc (by rw [hmx, hhx]; exact hrun)]
        refine Out.same hr ?_ hs
        have hmv : mv.toNat = h' := by omega
        rw [hmv]
        simp only [AV.val, Tr.isAgg, Tr.rel]
        have hlen : ((xs.take h').drop l').length = h' - l' := by simp; omega
        refine ⟨_, _, by rw [hlen], by intro; rw [hlen], by rw [hlen]; omega, ?_⟩
        rcases ro_cut (holds := fun k mem => e.ro k = some mem) hro hle hx1 with hz | hz
        · exact .inl hz
        · by_cases hcl : h' = l'
          · left; rw [← List.length_eq_zero_iff, hlen]; omega
          · rw [if_neg hcl]; exact .inr hz
  · rename_i e' xs hxa
    rw [hxa] at hxv
    simp only [AV.val, AV.leaf] at hxv
    obtain ⟨base, cap, hc, hcap, hro⟩ := hxv
    have hc : a.eval x' = .slice base xs.length cap := by simpa using hc
    obtain ⟨he, hs⟩ := sat_off' hs
    have he := beq_eq he
    subst he
    cases m with
    | none =>
      have hmx := nomax rfl
      obtain ⟨l', h', hle, hn, hx1, hs, hrun⟩ := cut_sound (w := w) hl hh hcap hs
      have hx1 : h' ≤ xs.length := by
        cases h with
        | none => rw [hn rfl]; exact Nat.le_refl _
        | some v => exact (hx1 _ rfl).1
      rw [run hc (by rw [hmx]; exact hrun)]
      refine Out.same hr ?_ hs
      simp only [AV.val, AV.leaf]
      have hlen : ((xs.take h').drop l').length = h' - l' := by simp; omega
      refine ⟨_, _, by rw [hlen], by rw [hlen]; omega, ?_⟩
      rcases ro_cut hro hle hx1 with hz | hz
      · exact .inl hz
      · by_cases hcl : cap = l'
        · left; rw [← List.length_eq_zero_iff, hlen]; omega
        · rw [if_neg hcl]; exact .inr hz
    | some mv =>
      obtain ⟨jm, hmx⟩ := somemax rfl
      cases h with
      | none => exact hs.elim
      | some hv =>
        obtain ⟨jh, hhx⟩ := somehi rfl
        simp only [sat] at hs
        obtain ⟨hmh, hs⟩ := hs
        have hmh : mv = hv := by simpa using hmh
        subst hmh
        have hs0 := hs
        unfold cutK at hs0
        have hb0 := of_decide_eq_true hs0.1
        obtain ⟨l', h', hle, hx0, hx1, hx2, hs, hrun⟩ := cut3_sound (w := w) (top' := cap) hl rfl rfl hb0.1 (by omega) (.inr rfl) (vhi := .int jh mv) (vm := .int jm mv) hs
        rw [run hc (by rw [hmx, hhx]; exact hrun)]
        refine Out.same hr ?_ hs
        have hmv : mv.toNat = h' := by omega
        rw [hmv]
        simp only [AV.val, AV.leaf]
        have hlen : ((xs.take h').drop l').length = h' - l' := by simp; omega
        refine ⟨_, _, by rw [hlen], by rw [hlen]; omega, ?_⟩
        rcases ro_cut hro hle hx1 with hz | hz
        · exact .inl hz
        · by_cases hcl : h' = l'
          · left; rw [← List.length_eq_zero_iff, hlen]; omega
          · rw [if_neg hcl]; exact .inr hz
  · rename_i b o' p off len cap hxa
    rw [hxa] at hxv
    simp only [AV.val, AV.leaf] at hxv
    rcases hxv with ⟨hβ, rfl, rfl, rfl, rfl, hcp, base, hc⟩ | ⟨blk, es, rc, nn, base, c, hβ, hc, hle0, hin, hcap, hbase⟩
    · have hc : a.eval x' = .slice base 0 0 := by simpa using hc
      obtain ⟨rl, hs, hrl⟩ := eszK_cont hs
      have hrl0 : rl = 0 := by
        rcases hrl with ⟨ys, h1, h2⟩ | h2
        · obtain ⟨_, h3⟩ := hr.virt b _ h1 (by simp) hβ
          simp only [AO.row.injEq] at h3
          rw [h2, h3.2]; rfl
        · exact h2
      cases m with
      | none =>
        have hmx := nomax rfl
        simp only at hs
        have e0 : cap.getD (max 0 (rl - 0)) = 0 := by rw [hrl0]; simpa using hcp
        rw [e0] at hs
        obtain ⟨l', h', hle, hn, hx1, hs, hrun⟩ := cut_sound (w := w) hl hh (Nat.le_refl 0) hs
        have hx1 : h' = 0 := by
          cases h with
          | none => exact hn rfl
          | some v => have := (hx1 _ rfl).1; omega
        subst hx1
        have : l' = 0 := by omega
        subst this
        rw [run hc (by rw [hmx]; exact hrun)]
        refine Out.same hr ?_ hs
        simp only [AV.val, AV.leaf]
        refine .inl ⟨hβ, rfl, rfl, rfl, rfl, ?_, _, by simp; rfl⟩
        cases cap with
        | none => rfl
        | some k => simp at hcp; simp [hcp]
      | some mv =>
        obtain ⟨jm, hmx⟩ := somemax rfl
        cases h with
        | none => exact hs.elim
        | some hv =>
          obtain ⟨jh, hhx⟩ := somehi rfl
          obtain ⟨hmb, hs⟩ := hs
          have hmb := of_decide_eq_true hmb
          rw [hcp] at hmb
          obtain ⟨l', h', hle, hx0, hx1, hx2, hs, hrun⟩ := cut3_sound (w := w) (top' := 0) hl rfl rfl hmb.1 hmb.2 (.inl rfl) (vhi := .int jh hv) (vm := .int jm mv) hs
          have : mv.toNat = 0 := by omega
          rw [this] at hx0 hrun hs
          have : h' = 0 := by omega
          subst this
          have : l' = 0 := by omega
          subst this
          rw [run hc (by rw [hmx, hhx]; exact hrun)]
          refine Out.same hr ?_ hs
          simp only [AV.val, AV.leaf]
          exact .inl ⟨hβ, rfl, rfl, rfl, rfl, by simp, _, by simp; rfl⟩
    · have hc : a.eval x' = .slice base len c := by simpa using hc
      obtain ⟨hes, rl, hs9, hrl⟩ := eszK_sound hs hr hβ
      subst hes
      have hs := hs9
      have moved {l' h' m' : Nat} (hl1 : l' ≤ h') (hm1 : h' ≤ m') (hm2 : m' ≤ c) (h4 : ∀ n', nn = some n' → off + h' ≤ n') (capN : Option Nat)
          (hcn : match capN with
            | some k => m' - l' = k
            | none => o' = 0 ∧ p = [] ∧ off + l' ≤ rc ∧ m' - l' = rc - (off + l')) (hcn2 : ∀ n', nn = some n' → off + l' + capN.getD 0 ≤ n') :
          AV.val e (.sl b o' p (off + l') (h' - l') capN) (.slice (if m' = l' then base else base.map (·.add (l' * es))) (h' - l') (m' - l')) := by
        simp only [AV.val, AV.leaf]
        refine .inr ⟨blk, es, rc, nn, _, _, hβ, rfl, by omega, fun n' hn' => ⟨by have := h4 n' hn'; omega, (hin n' hn').2.1, hcn2 n' hn'⟩, hcn, ?_⟩
        by_cases hml : m' = l'
        · left; omega
        · right
          rw [if_neg hml]
          rcases hbase with hz | hz
          · omega
          · rw [hz]; simp [add_off, Nat.add_mul, Nat.add_assoc]
      have htop : cap.getD (max len (rl - off)) ≤ c ∧ len ≤ c := by
        refine ⟨?_, hle0⟩
        cases cap with
        | none =>
          simp only at hcap
          simp only [Option.getD_none]
          rcases hrl with rfl | ⟨_, h2⟩ <;> omega
        | some k => simp only at hcap; simp [hcap]
      have htop2 : cap.getD len ≤ c := by
        cases cap with
        | none => exact hle0
        | some k => simp only at hcap; simp [hcap]
      cases m with
      | none =>
        have hmx := nomax rfl
        obtain ⟨l', h', hle, hn, hx1, hs, hrun⟩ := cut_sound (w := w) hl hh htop.1 hs
        have hx2 : h' ≤ c ∧ ∀ n', nn = some n' → off + h' ≤ n' := by
          cases h with
          | none => rw [hn rfl]; exact ⟨hle0, fun n' hn' => (hin n' hn').1⟩
          | some v =>
            have := (hx1 _ rfl).1
            refine ⟨by omega, fun n' hn' => ?_⟩
            obtain ⟨g1, _, g2⟩ := hin n' hn'
            cases cap with
            | none =>
              simp only [Option.getD_none] at this
              rcases hrl with rfl | ⟨h2, h3⟩
              · omega
              · rw [hn'] at h2
                obtain rfl := Option.some.inj h2
                omega
            | some k => simp only [Option.getD_some] at this g2; omega
        rw [run hc (by rw [hmx]; exact hrun)]
        refine Out.same hr (moved hle hx2.1 (Nat.le_refl _) hx2.2 _ ?_ (fun n' hn' => ?_)) hs
        · cases cap with
          | none => simp only at hcap ⊢; refine ⟨hcap.1, hcap.2.1, ?_, ?_⟩ <;> omega
          | some k => simp only at hcap ⊢; omega
        · obtain ⟨g1, _, g2⟩ := hin n' hn'
          have := hx2.2 n' hn'
          cases cap with
          | none => simp only [Option.getD_none]; omega
          | some k => simp only at hcap; simp only [Option.getD_some] at g2 ⊢; omega
      | some mv =>
        obtain ⟨jm, hmx⟩ := somemax rfl
        cases h with
        | none => exact hs.elim
        | some hv =>
          obtain ⟨jh, hhx⟩ := somehi rfl
          obtain ⟨hmb, hs⟩ := hs
          have hmb := of_decide_eq_true hmb
          obtain ⟨l', h', hle, hx0, hx1, hx2, hs, hrun⟩ := cut3_sound (w := w) (top' := c) hl rfl rfl hmb.1 (by omega) (.inl rfl) (vhi := .int jh hv) (vm := .int jm mv) hs
          rw [run hc (by rw [hmx, hhx]; exact hrun)]
          refine Out.same hr (moved hle hx0 (by omega) (fun n' hn' => ?_) _ (by simp) (fun n' hn' => ?_)) hs
          · obtain ⟨g1, _, g2⟩ := hin n' hn'
            cases cap with
            | none => simp only [Option.getD_none] at hmb; omega
            | some k => simp only [Option.getD_some] at hmb g2; omega
          · obtain ⟨g1, _, g2⟩ := hin n' hn'
            cases cap with
            | none => simp only [Option.getD_none, Option.getD_some] at hmb ⊢; omega
            | some k => simp only [Option.getD_some] at hmb g2 ⊢; omega
  · exact hs.elim
end Stk
