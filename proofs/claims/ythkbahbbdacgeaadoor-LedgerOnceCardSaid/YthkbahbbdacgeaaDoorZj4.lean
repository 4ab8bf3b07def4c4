/- Several texts of this claim, joined into one file. -/
import Derived.Test.YthkbahbbdacgeaaDoorZj3
import Derived.Deep.AppendSrc
import Derived.Deep.Upon
import Derived.Laws.IdiomStrings
import Derived.Laws.BytesString
import Derived.Laws.MakeOwn
section
/- The framework, part 9: what is appended, copied, made. -/
namespace Stk
open Go
variable {X : Cx} {Q : Ex → Fr → Hp → Prop} {e : Env} {H : Hp} {w : World}

theorem op_sliceA {t el : TypeId} {n : Nat} {x : Opd} {x' : Operand} {lo hi mx : Option Opd} {lo' hi' mx' : Option Operand} (hx : chkOpd X.G x x' = true) (h1 : chkOO X.G lo lo' = true) (h2 : chkOO X.G hi hi' = true) (h3 : chkOO X.G mx mx' = true)
    (ht : X.P.underlying t = some (.array n el) ∨ ∃ q, X.P.underlying t = some (.pointer q) ∧ X.P.underlying q = some (.array n el)) (hsz : (X.P.info? el).map (·.size) = some 1) :
    OpS0 X (.slice t x' lo' hi' mx') (.sliceA n x lo hi mx) := by
  intro o ho e H w fr a Q k hr hf hs
  have hxv := chkOpd_val hr hf hx
  simp only [opT, evK_eq] at hs
  obtain ⟨l, hl, hs⟩ := sat_ointK hr hf h1 hs
  obtain ⟨h, hh, hs⟩ := sat_ointK hr hf h2 hs
  obtain ⟨m, hm, hs⟩ := sat_ointK hr hf h3 hs
  have run {ad : Addr} {l' h' m' : Nat} (hc : a.eval x' = .pointer (some ad)) (hb : ∀ P b, (Instr.sliceBounds b n n (lo'.map a.eval) (hi'.map a.eval) (mx'.map a.eval)).run P w = .ok (l', h', m') w) :
      (execOp a.eval o).run X.P w = .ok (.value (.slice (some (if m' = l' then ad else ad.add (l' * 1))) (h' - l') (m' - l'))) w := by
    simp only [execOp, ho]
    refine run_v ?_
    rw [hc]
    rcases ht with ht | ⟨q, ht, hq⟩
    · simp only [Instr.sliceAt, Sem.run_bind, run_under ht, Result.andThen, Instr.sureAddr, Sem.run_pure, hb X.P false, run_sizeOf hsz]
    · simp only [Instr.sliceAt, Sem.run_bind, run_under ht, Result.andThen, Instr.slice, asAddr, Sem.run_pure, run_under hq, hb X.P false, run_sizeOf hsz]
  have nomax : m = none → mx'.map a.eval = none := by
    rintro rfl
    cases hmm : mx'.map a.eval with
    | none => rfl
    | some v => rw [hmm] at hm; exact hm.elim
  unfold sliceAK at hs
  split at hs
  · rename_i b o' p hxa
    rw [hxa] at hxv
    simp only [AV.val, AV.leaf] at hxv
    obtain ⟨blk, esz, rc, nn, hβ, hc⟩ := hxv
    have hc : a.eval x' = .pointer (some ⟨blk, o', none⟩) := by simpa using hc
    obtain ⟨ob, hob, hs⟩ := sat_nthK hs
    cases ob with
    | row _ _ => exact hs.elim
    | map _ => exact hs.elim
    | gone => exact hs.elim
    | mapI es i => exact hs.elim
    | iter m es left last => exact hs.elim
    | dr e' ms h' => exact hs.elim
    | var v =>
      cases m with
      | some _ => exact hs.elim
      | none =>
        obtain ⟨oo, hoo, hrel⟩ := hr.obj b _ hob (by simp) _ _ _ _ hβ
        obtain ⟨hnn, he1, _⟩ := hrel
        obtain ⟨l', h', hle, hn, hx1, hs, hrun⟩ := cut_sound (w := w) hl hh (Nat.le_refl n) hs
        have hx1 : h' ≤ n := by
          cases h with
          | none => rw [hn rfl]; exact Nat.le_refl _
          | some v => exact (hx1 _ rfl).1
        rw [run hc (by rw [nomax rfl]; exact hrun)]
        refine Out.same hr ?_ hs
        simp only [AV.val, AV.leaf]
        refine .inr ⟨blk, esz, rc, nn, _, _, hβ, rfl, by omega, (fun n' hn' => absurd hn' (by rw [hnn]; simp)), rfl, ?_⟩
        by_cases hml : n = l'
        · left; omega
        · right; rw [if_neg hml, add_off, he1]
  · rename_i m' xs hxa
    rw [hxa] at hxv
    simp only [AV.val, AV.leaf, Tr.rel] at hxv
    obtain ⟨ad, mem, mid, hc, hsp, hmm, hsub, hlen, hones⟩ := hxv
    have hc : a.eval x' = .pointer (some ad) := by simpa using hc
    cases m with
    | some _ => exact hs.elim
    | none =>
      have hmn : m' = n ∧ sat X Q (cutK n n l h fun l h => k (.bz 1 ((xs.take h).drop l)) H) := by
        cases hb : Nat.beq m' n with
        | true => rw [hb] at hs; exact ⟨beq_eq hb, hs⟩
        | false => rw [hb] at hs; exact hs.elim
      obtain ⟨hmn, hz⟩ := hmn
      subst hmn
      obtain ⟨l', h', hle, hn, hx1, hz, hrun⟩ := cut_sound (w := w) hl hh (Nat.le_refl m') hz
      have hx1 : h' ≤ m' := by
        cases h with
        | none => rw [hn rfl]; exact Nat.le_refl _
        | some v => exact (hx1 _ rfl).1
      rw [run hc (by rw [nomax rfl]; exact hrun)]
      refine Out.same hr ?_ hz
      simp only [AV.val, AV.leaf]
      have hl2 : ((xs.take h').drop l').length = h' - l' := by simp; omega
      refine ⟨_, _, by rw [hl2], by rw [hl2]; omega, ?_⟩
      rcases ro_cut (base := some ad) (holds := e.holds) (.inr ⟨ad, mem, mid, rfl, hsp, hmm, hsub, Tr.ones_row hones⟩) hle (by omega) with hq | ⟨ad2, mem2, mid2, h4, h5⟩
      · exact .inl hq
      · by_cases hml : m' = l'
        · left; rw [← List.length_eq_zero_iff, hl2]; omega
        · right
          rw [if_neg hml]
          exact ⟨ad2, mem2, mid2, by simpa using h4, h5⟩
  · exact hs.elim

theorem mnmx_sound {mx : Bool} {j : IntKind} : ∀ {vs : List AV} {x : Int} {cs : List Value} {k : AV → T}, AV.vals e vs cs → sat X Q (mnmxK mx j x vs k) →
    ∃ y, sat X Q (k (.t (.int j y))) ∧ ∀ P, (cs.foldlM (if mx then Builtin.max2 else Builtin.min2) (.int j x) : Sem Value).run P w = .ok (.int j y) w
  | [], x, cs, k, hvs, h => by
    simp only [AV.vals] at hvs; subst hvs
    exact ⟨x, h, fun P => by simp⟩
  | u :: vs, x, cs, k, hvs, h => by
    simp only [AV.vals] at hvs
    obtain ⟨d, b, rfl, hu, hb⟩ := hvs
    unfold mnmxK at h
    split at h
    · rename_i j' y
      have hd := val_int hu
      subst hd
      cases hk : kindEq j j' with
      | false => rw [hk] at h; exact h.elim
      | true =>
        rw [hk] at h
        cases mx with
        | true =>
          obtain ⟨z, hz, hrun⟩ := mnmx_sound (x := max x y) hb h
          refine ⟨z, hz, fun P => ?_⟩
          simp only [List.foldlM_cons, Sem.run_bind, if_true, Builtin.max2, Sem.run_pure, Result.andThen]
          have e1 : (if y > x then y else x) = max x y := by rw [Int.max_def]; split <;> split <;> omega
          rw [e1]; exact hrun P
        | false =>
          obtain ⟨z, hz, hrun⟩ := mnmx_sound (x := min x y) hb h
          refine ⟨z, hz, fun P => ?_⟩
          simp only [List.foldlM_cons, Sem.run_bind, Bool.false_eq_true, if_false, Builtin.min2, Sem.run_pure, Result.andThen]
          have e1 : (if y < x then y else x) = min x y := by rw [Int.min_def]; split <;> split <;> omega
          rw [e1]; exact hrun P
    · exact h.elim

theorem op_mnmx {mx : Bool} {xs : List Opd} {xs' : Array Operand} {ats : Array TypeId} (hx : chkOpds X.G xs xs'.toList = true) : OpS0 X (.call { callee := .builtin (if mx then .max else .min), args := xs', argTypes := ats }) (.mnmx mx xs) := by
  intro o ho e H w fr a Q k hr hf hs
  have hv := chkOpds_vals hr hf hx
  simp only [opT, evsK_eq] at hs
  split at hs
  · rename_i j x vs hxs
    rw [hxs] at hv
    simp only [AV.vals] at hv
    obtain ⟨c, b, hcs, hc, hb⟩ := hv
    have hc := val_int hc
    subst hc
    obtain ⟨y, hs, hrun⟩ := mnmx_sound (w := w) hb hs
    have : (execOp a.eval o).run X.P w = .ok (.value (.int j y)) w := by
      rw [run_call_builtin ho]
      have hl : (xs'.map a.eval).toList = .int j x :: b := by simpa using hcs
      have h1 := hrun X.P
      cases mx with
      | true =>
        simp only [if_true, builtin] at h1 ⊢
        refine run_v ?_
        simp only [Builtin.max_, hl]
        exact h1
      | false =>
        simp only [Bool.false_eq_true, if_false, builtin] at h1 ⊢
        refine run_v ?_
        simp only [Builtin.min_, hl]
        exact h1
    rw [this]
    exact Out.same hr (mk_int _ _ _) hs
  · exact hs.elim

/-! ### What a slice or a string yields -/
theorem sat_elems {b : Bool} {xs : List Tr} {k : List Tr → T} {s : String} (h : sat X Q (match b, xs with
      | true, xs => k xs
      | false, [] => k []
      | _, _ => .stuck s)) : (b = true ∧ sat X Q (k xs)) ∨ (xs = [] ∧ sat X Q (k [])) := by
  cases b with
  | true => exact .inl ⟨rfl, h⟩
  | false => cases xs with
    | nil => exact .inr ⟨rfl, h⟩
    | cons x r => exact h.elim
theorem elems_sound (hr : Rel X.G e H w) {a : AV} {c : Value} (ha : AV.val e a c) {esz : Nat} {k : List Tr → T} (h : sat X Q (elemsK esz H a k)) :
    ∃ ys news, sat X Q (k ys) ∧ Tr.row e.ro esz ys news ∧ ((∃ base cap, c = .slice base ys.length cap ∧ (news = [] ∨ ∃ ad, base = some ad ∧ ad.spot = none ∧ ∃ cs t fz, w.heap[ad.block]? = some (.cells cs t fz) ∧ Sub cs.toList ad.off news)) ∨ (∃ s, c = .string s ∧ esz = 1 ∧ ys.length = s.size ∧ news = byteCells s)) := by
  have nil_of {ys : List Tr} {news : List Value} (hrow : Tr.row e.ro esz ys news) (h : ys = []) : news = [] := by subst h; simpa [Tr.row] using hrow
  unfold elemsK at h
  split at h
  · rename_i full es xs
    simp only [AV.val, Tr.isAgg, Tr.rel] at ha
    obtain ⟨base, cap, hc, _, _, hh⟩ := ha
    have hc : c = .slice base xs.length cap := by simpa using hc
    rcases sat_elems h with ⟨he, hz⟩ | ⟨hx0, hz⟩
    · have he := beq_eq he
      subst he
      rcases hh with rfl | ⟨ad, mem, mid, rfl, hsp, hm, hsub, hrow⟩
      · exact ⟨[], [], hz, by simp [Tr.row], .inl ⟨base, cap, by simpa using hc, .inl rfl⟩⟩
      · obtain ⟨cs, t, fz, hk, rfl⟩ := hr.mem _ _ (.inl hm)
        exact ⟨xs, mid, hz, hrow, .inl ⟨_, cap, hc, .inr ⟨ad, rfl, hsp, cs, t, fz, hk, hsub⟩⟩⟩
    · subst hx0; exact ⟨[], [], hz, by simp [Tr.row], .inl ⟨base, cap, by simpa using hc, .inl rfl⟩⟩
  · rename_i es xs
    simp only [AV.val, AV.leaf] at ha
    obtain ⟨base, cap, hc, _, hh⟩ := ha
    have hc : c = .slice base xs.length cap := by simpa using hc
    obtain ⟨he, hz⟩ := sat_t h
    have he := beq_eq he
    subst he
    rcases hh with rfl | ⟨ad, mem, mid, rfl, hsp, hm, hsub, hrow⟩
    · exact ⟨[], [], hz, by simp [Tr.row], .inl ⟨base, cap, by simpa using hc, .inl rfl⟩⟩
    · obtain ⟨cs, t, fz, hk, rfl⟩ := hr.mem _ _ hm
      exact ⟨xs, mid, hz, hrow, .inl ⟨_, cap, hc, .inr ⟨ad, rfl, hsp, cs, t, fz, hk, hsub⟩⟩⟩
  · rename_i s
    have hc := val_str ha
    obtain ⟨he, hz⟩ := sat_t h
    have he := beq_eq he
    subst he
    refine ⟨_, byteCells s, hz, ?_, .inr ⟨s, hc, rfl, by simp, rfl⟩⟩
    unfold byteCells
    generalize s.data.toList = l
    induction l with
    | nil => simp [Tr.row]
    | cons b l ih => simp only [List.map_cons, Tr.row]; exact ⟨[.int .u8 b.toNat], _, rfl, rfl, by simp [byteT, Tr.rel], ih⟩
  · rename_i b o p off len cap
    simp only [AV.val, AV.leaf] at ha
    obtain ⟨ob, hob, h⟩ := sat_nthK h
    cases ob with
    | map _ => exact h.elim
    | gone => exact h.elim
    | mapI es i => exact h.elim
    | iter m es left last => exact h.elim
    | dr e' ms h' => exact h.elim
    | row es xs =>
      obtain ⟨he, hz⟩ := sat_t h
      have he := beq_eq he
      subst he
      rcases ha with ⟨hβ, rfl, rfl, rfl, rfl, _, base, hc⟩ | ⟨blk, es', rc, nn, base, cp, hβ, hc, hle, hin, hcap, hbase⟩
      · exact ⟨_, [], hz, by simp [Tr.row], .inl ⟨base, 0, by simpa using hc, .inl rfl⟩⟩
      · have hc : c = .slice base len cp := by simpa using hc
        obtain ⟨oo, hoo, hrel⟩ := hr.obj b _ hob (by simp) _ _ _ _ hβ
        obtain ⟨rfl, hn, cs, t, fz, rfl, _, _, _, _, mid, post, hcs, hrow⟩ := hrel
        obtain ⟨hin, rfl, _⟩ := hin _ hn
        obtain ⟨mid2, hs2, hr2⟩ := Tr.row_cut hrow off len
        rw [Nat.min_eq_left (by omega)] at hs2
        have hs0 : Sub cs.toList 0 mid := ⟨[], post, by simpa using hcs, rfl⟩
        have hlen : ((xs.drop off).take len).length = len := by simp; omega
        refine ⟨_, mid2, hz, hr2, .inl ⟨base, cp, by rw [hlen]; exact hc, ?_⟩⟩
        rcases hbase with h0 | rfl
        · left; exact nil_of hr2 (by rw [← List.length_eq_zero_iff, hlen]; omega)
        · right; exact ⟨_, rfl, rfl, cs, t, fz, hoo, by simpa using hs0.trans hs2⟩
    | var v =>
      obtain ⟨y, d, hp, h⟩ := sat_getA h
      simp only [Nat.zero_add] at h
      split at h
      · rename_i m xs hod hesz
        have hod := beq_eq hod
        have hesz := beq_eq hesz
        simp only [sat] at h
        obtain ⟨hb, hz⟩ := h
        have hb := of_decide_eq_true hb
        subst hod hesz
        have hlen : ((xs.drop off).take len).length = len := by simp; omega
        rcases ha with ⟨hβ, rfl, rfl, rfl, rfl, _, base, hc⟩ | ⟨blk, es', rc, nn, base, cp, hβ, hc, hle, hin, hcap, hbase⟩
        · exact ⟨_, [], hz, by simp [Tr.row], .inl ⟨base, 0, by simpa using hc, .inl rfl⟩⟩
        · have hc : c = .slice base len cp := by simpa using hc
          obtain ⟨oo, hoo, hrel⟩ := hr.obj b _ hob (by simp) _ _ _ _ hβ
          obtain ⟨hnn, rfl, cs, t, fz, rfl, hvr, _⟩ := hrel
          obtain ⟨mid, hs, hy, _⟩ := pathA_sound (y := .undef) hp hvr
          simp only [AV.rel, AV.leaf, Tr.rel] at hy
          obtain ⟨mid2, hs2, hr2⟩ := Tr.row_cut (Tr.ones_row hy.2) off len
          rw [Nat.min_eq_left (by omega)] at hs2
          refine ⟨_, mid2, hz, hr2, .inl ⟨base, cp, by rw [hlen]; exact hc, ?_⟩⟩
          rcases hbase with h0 | rfl
          · left; exact nil_of hr2 (by rw [← List.length_eq_zero_iff, hlen]; omega)
          · right; exact ⟨_, rfl, rfl, cs, t, fz, hoo, hs.trans hs2⟩
      · exact h.elim
  · exact h.elim

/-- what it yields, as the append's law wants it -/
theorem src_of {P : Program} {esz : Nat} {tx : TypeId} {c : Value} {ys : List Tr} {news : List Value} {m : Nat → Option (List Value)} (hk : (∃ e', P.underlying tx = some (.slice e')) ∨ P.underlying tx = some .string) (hrow : Tr.row m esz ys news)
    (h : (∃ base cap, c = .slice base ys.length cap ∧ (news = [] ∨ ∃ ad, base = some ad ∧ ad.spot = none ∧ ∃ cs t fz, w.heap[ad.block]? = some (.cells cs t fz) ∧ Sub cs.toList ad.off news)) ∨ (∃ s, c = .string s ∧ esz = 1 ∧ ys.length = s.size ∧ news = byteCells s)) :
    Src P esz tx c ys.length news w := by
  have hl := Tr.row_length hrow
  rcases h with ⟨base, cap, rfl, h⟩ | ⟨s, rfl, rfl, h1, rfl⟩
  · have key : ∀ w' : World, (∀ k : Nat, w'.heap[k]? = w.heap[k]?) → (Builtin.firstCells esz ys.length (.slice base ys.length cap)).run P w' = .ok news.toArray w' := by
      intro w' hw
      rcases h with rfl | ⟨ad, rfl, hsp, cs, t, fz, hk', hsub⟩
      · have h0 : ys.length * esz = 0 := by simpa using hl.symm
        cases base with
        | none => rfl
        | some ad => simp only [Builtin.firstCells, h0]; rfl
      · have := run_loadCells_sub (P := P) (w := w') (k := ad.block) (cs := cs) (t := t) (fz := fz) (by rw [hw]; exact hk') hsub
        simp only [Builtin.firstCells, ← hl]
        rw [addr_eta hsp]; exact this
    exact ⟨hk, fun _ => rfl, key w (fun _ => rfl), key w.drew (fun _ => rfl), hl, fun u hu => Tr.row_one hrow u hu⟩
  · rw [h1]
    exact ⟨hk, fun _ => rfl, firstCells_string s w, firstCells_string s w.drew, by rw [byteCells_length, Nat.mul_one], fun u hu => by
      obtain ⟨_, _, rfl⟩ := List.mem_map.1 hu
      rfl⟩

/-! ### Appends -/
theorem append_room {P : Program} {w w' : World} (t tx ty el : TypeId) (i : TypeInfo) (ht : P.underlying t = some (.slice el)) (hi : P.info? el = some i) (b off sLen sCap : Nat) (x : Value) (n : Nat) (news : List Value) (hs : Go.Src P i.size tx x n news w)
    (hroom : sLen + n ≤ sCap) (hst : (storeCells ⟨b, off + sLen * i.size, none⟩ news).run P w = .ok () w') :
    (Builtin.append_ #[t, tx] ty #[.slice (some ⟨b, off, none⟩) sLen sCap, x]).run P w = .ok (.slice (some ⟨b, off, none⟩) (sLen + n) sCap) w' := by
  rcases hs.kind with ⟨e', hk⟩ | hk <;> simp [Builtin.append_, run_underlying ht, run_underlying hk, Go.sizeOf, typeInfo, hi, hs.len, hroom, hs.cells, Addr.add_lit, hst]

theorem roomy_spec {n bytes : Nat} (h : roomy n bytes = true) : 2 * n * bytes ≤ 281474976710656 ∧ n < 4611686018427387904 := by
  have := of_decide_eq_true h; omega

/-- The types of an append. -/
structure AppTy (P : Program) (t tx el : TypeId) (esz bytes : Nat) : Prop where
  ht : P.underlying t = some (.slice el)
  info : ∃ i z, P.info? el = some i ∧ i.size = esz ∧ i.bytes = bytes ∧ i.zero = some z ∧ z.cells.size = esz ∧ Ones z.cells.toList
  kind : (∃ e', P.underlying tx = some (.slice e')) ∨ P.underlying tx = some .string

theorem zero_ones {z : Array Value} (h : Ones z.toList) (n : Nat) : Ones (Builtin.zeroCells z n).toList := by
  intro c hc
  simp only [Builtin.zeroCells, Array.toList_map, List.mem_map] at hc
  obtain ⟨i, hi, rfl⟩ := hc
  by_cases hz : z.size = 0
  · rw [hz, Nat.mul_zero] at hi; simp at hi
  · have hlt : i % z.size < z.size := Nat.mod_lt _ (by omega)
    rw [getElem!_pos z (i % z.size) hlt]
    exact h _ (by simp)

/-- A new row behind an append that grows. -/
theorem grow_row (hr : Rel X.G e H w) {t tx ty el : TypeId} {esz bytes : Nat} (hT : AppTy X.P t tx el esz bytes) {base : Option Addr} {sLen sCap : Nat} {xs ys : List Tr} {olds news : List Value} {c : Value}
    (hold : (Builtin.firstCells esz sLen (.slice base sLen sCap)).run X.P w.drew = .ok olds.toArray w.drew) (hox : Tr.row e.ro esz xs olds) (hlen : xs.length = sLen) (hny : Tr.row e.ro esz ys news)
    (hsrc : Go.Src X.P esz tx c ys.length news w) (hg : sCap < sLen + ys.length) (hroom : roomy (sLen + ys.length) bytes = true) :
    ∃ v w' cap, (Builtin.append_ #[t, tx] ty #[.slice base sLen sCap, c]).run X.P w = .ok v w' ∧
      Step X.G e H w (e.bind H.length (.at w.heap.size esz cap (some (xs ++ ys).length))) (H ++ [.row esz (xs ++ ys)]) w' ∧
      AV.val (e.bind H.length (.at w.heap.size esz cap (some (xs ++ ys).length))) (.sl H.length 0 [] 0 (sLen + ys.length) none) v := by
  obtain ⟨i, z, hi, hsz, hby, hz, hzs, hzo⟩ := hT.info
  obtain ⟨r1, r2⟩ := roomy_spec hroom
  have hfit : Builtin.nextslicecap (sLen + ys.length) sCap * i.bytes ≤ 281474976710656 := by
    have := nextslicecap_le hg
    rw [hby]
    exact Nat.le_trans (Nat.mul_le_mul_right bytes this) r1
  subst hsz
  have hrun := run_append_grow_src w t tx ty el i z hT.ht hi hz base sLen sCap olds hold c ys.length news hsrc hg (by omega) hfit
  have hcap := grownCap_ge w (sLen + ys.length) sCap el
  refine ⟨_, _, grownCap w (sLen + ys.length) sCap el, hrun, ?_, ?_⟩
  · have hd := Step.drew hr
    have hlo := Tr.row_length hox
    have hln := Tr.row_length hny
    have hst := Step.new (o := .row i.size (xs ++ ys)) (ob := .cells ((olds ++ news).toArray ++ Builtin.zeroCells z.cells (grownCap w (sLen + ys.length) sCap el - (sLen + ys.length))) el) (esz := i.size) (cap := grownCap w (sLen + ys.length) sCap el) (n := some (xs ++ ys).length) hd.rel
      ⟨rfl, rfl, _, _, (0, 0), rfl, ⟨Nat.le_refl _, fun i _ => by simp⟩, ?_, by simp; omega, ?_, olds ++ news, _, by simp; rfl, Tr.row_append hox hny⟩
    · exact hd.trans hst
    · simp only [Array.size_append, List.size_toArray, List.length_append, size_zeroCells, hzs, hlo, hln, hlen]
      rw [← Nat.add_mul, ← Nat.add_mul]; congr 1; omega
    · intro c hc
      simp only [Array.toList_append, List.mem_append] at hc
      rcases hc with (hc | hc) | hc
      · exact Tr.row_one hox c hc
      · exact Tr.row_one hny c hc
      · exact zero_ones hzo _ c hc
  · simp only [AV.val, AV.leaf]
    exact .inr ⟨_, _, _, _, _, _, e.bind_same _ _, rfl, hcap, fun n' hn' => by obtain rfl := Option.some.inj hn'; simp; omega, ⟨rfl, rfl, Nat.zero_le _, by simp⟩, .inr (by simp)⟩

theorem append_sound (hr : Rel X.G e H w) {t tx ty el : TypeId} {esz bytes : Nat} (hT : AppTy X.P t tx el esz bytes) {inn : Bool} {s : AV} {cs c : Value} (hs0 : AV.val e s cs) {ys : List Tr} {news : List Value} (hny : Tr.row e.ro esz ys news)
    (hsrc : Go.Src X.P esz tx c ys.length news w) {k : AV → Hp → T} (h : sat X Q (appendK inn esz bytes H s ys k)) :
    ∃ v cv e' H' w', (Builtin.append_ #[t, tx] ty #[cs, c]).run X.P w = .ok cv w' ∧ AV.val e' v cv ∧ Step X.G e H w e' H' w' ∧ sat X Q (k v H') := by
  obtain ⟨i, z, hi, hsz, hby, hz, hzs, hzo⟩ := hT.info
  have empty0 {base : Option Addr} {es : Nat} (hcs : cs = .slice base 0 0) (h2 : sat X Q (.asrt (roomy ys.length bytes) (newK (.row es ys) H fun b H' => k (.sl b 0 [] 0 ys.length none) H'))) (he : es = esz) :
      ∃ v cv e' H' w', (Builtin.append_ #[t, tx] ty #[cs, c]).run X.P w = .ok cv w' ∧ AV.val e' v cv ∧ Step X.G e H w e' H' w' ∧ sat X Q (k v H') := by
    subst he
    obtain ⟨hroom, h2⟩ := h2
    rw [newK_eq] at h2
    by_cases hn : ys.length = 0
    · have hys : ys = [] := List.length_eq_zero_iff.1 hn
      subst hys
      have hnews : news = [] := by simpa [Tr.row] using hny
      subst hnews
      have hrun := run_append_nothing w t tx ty el i hT.ht hi base 0 0 (Nat.le_refl 0) c (by rw [hsz]; exact hsrc)
      refine ⟨_, _, _, _, _, by rw [hcs]; exact hrun, ?_, Step.virt hr es, h2⟩
      simp only [AV.val, AV.leaf]
      exact slRel_virt (e.bind_same _ _)
    · obtain ⟨v, w', cap, h1, h22, h3⟩ := grow_row (sLen := 0) (sCap := 0) (xs := []) (olds := []) (base := base) (ty := ty) hr hT (by
        cases base with
        | none => rfl
        | some ad => simp [Builtin.firstCells, loadCells, loadCellsFrom]) (by simp [Tr.row]) rfl hny hsrc (by omega) (by simpa using hroom)
      simp only [List.nil_append, Nat.zero_add] at h22 h3
      exact ⟨_, v, _, _, w', by rw [hcs]; exact h1, h3, h22, h2⟩
  unfold appendK at h
  split at h
  · rename_i es
    simp only [AV.val, Tr.isAgg] at hs0
    obtain ⟨base, hb⟩ := nil_rel hs0
    exact empty0 (by simpa using hb) h rfl
  · rename_i b o p off len cap
    obtain ⟨ob, hob, h⟩ := sat_nthK h
    cases ob with
    | var _ => exact h.elim
    | map _ => exact h.elim
    | gone => exact h.elim
    | mapI es i => exact h.elim
    | iter m es left last => exact h.elim
    | dr e' ms h' => exact h.elim
    | row es xs =>
      cases p with
      | cons _ _ => exact h.elim
      | nil =>
        simp only at h
        obtain ⟨he, h⟩ := sat_off' h
        have he := beq_eq he
        subst he
        simp only [AV.val, AV.leaf] at hs0
        rcases hs0 with ⟨hβ, rfl, _, rfl, rfl, hcp, base, hc⟩ | ⟨blk, es', rc, nn, base, cp, hβ, hc, hle, hin, hcap, hbase⟩
        · -- an empty one of the own
          have hc : cs = .slice base 0 0 := by simpa using hc
          obtain ⟨es', he' | he'⟩ := hr.virt b _ hob (by simp) hβ
          case inr => cases he'
          obtain ⟨rfl, rfl⟩ := AO.row.inj he'
          cases cap with
          | some c0 =>
            obtain rfl : c0 = 0 := by simpa using hcp
            exact empty0 hc h rfl
          | none =>
            cases inn with
            | true =>
              obtain ⟨hb, h⟩ := h
              have hb := of_decide_eq_true hb
              have hys : ys = [] := by rw [← List.length_eq_zero_iff]; simpa using hb
              subst hys
              obtain ⟨_, h⟩ := sat_setK h
              have hnews : news = [] := by simpa [Tr.row] using hny
              subst hnews
              have hrun := run_append_nothing w t tx ty el i hT.ht hi base 0 0 (Nat.le_refl 0) c (by rw [hsz]; exact hsrc)
              refine ⟨_, _, e, _, w, by rw [hc]; exact hrun, ?_, ?_, h⟩
              · simp only [AV.val, AV.leaf]; exact slRel_virt hβ
              · have : H.set b (.row es (over [] 0 [])) = H := by
                  apply List.ext_getElem?
                  intro j
                  rw [List.getElem?_set]
                  by_cases hj : b = j
                  · subst hj; rw [if_pos rfl, if_pos (lt_of_get hob), hob]; simp [over]
                  · rw [if_neg hj]
                simpa [this] using Step.refl hr
            | false =>
              obtain ⟨_, hroom, h⟩ := h
              obtain ⟨_, h⟩ := sat_setK (h.1 rfl)
              rw [newK_eq] at h
              have hg := Step.gone hr b
              have hsrc' := hsrc
              by_cases hn : ys.length = 0
              · have hys : ys = [] := List.length_eq_zero_iff.1 hn
                subst hys
                have hnews : news = [] := by simpa [Tr.row] using hny
                subst hnews
                have hrun := run_append_nothing w t tx ty el i hT.ht hi base 0 0 (Nat.le_refl 0) c (by rw [hsz]; exact hsrc)
                refine ⟨_, _, _, _, _, by rw [hc]; exact hrun, ?_, hg.trans (Step.virt hg.rel es), h⟩
                simp only [AV.val, AV.leaf]
                exact slRel_virt (e.bind_same _ _)
              · obtain ⟨v, w', cap, h1, h2, h3⟩ := grow_row (sLen := 0) (sCap := 0) (xs := []) (olds := []) (base := base) (ty := ty) hg.rel hT (by
                  cases base with
                  | none => rfl
                  | some ad => simp [Builtin.firstCells, loadCells, loadCellsFrom]) (by simp [Tr.row]) rfl hny hsrc (by omega) (by simpa using hroom)
                simp only [List.nil_append, Nat.zero_add] at h2 h3
                exact ⟨_, v, _, _, w', by rw [hc]; exact h1, h3, hg.trans h2, h⟩
        · have hc : cs = .slice base len cp := by simpa using hc
          obtain ⟨oo, hoo, hrel⟩ := hr.obj b _ hob (by simp) _ _ _ _ hβ
          obtain ⟨rfl, hn, cc, tt, fz, rfl, hfz, hcsz, hxc, hones, mid, post, hcs, hrow⟩ := hrel
          obtain ⟨hin1, rfl, hin2⟩ := hin _ hn
          have hs0 : Sub cc.toList 0 mid := ⟨[], post, by simpa using hcs, rfl⟩
          have hl := Tr.row_length hny
          have hml := Tr.row_length hrow
          -- the olds
          have holds : len ≠ 0 → ∃ olds, Sub cc.toList (off * es) olds ∧ Tr.row e.ro es ((xs.drop off).take len) olds := by
            intro _
            obtain ⟨mid2, hs2, hr2⟩ := Tr.row_cut hrow off len
            rw [Nat.min_eq_left (by omega)] at hs2
            exact ⟨mid2, by simpa using hs0.trans hs2, hr2⟩
          have hxlen : ((xs.drop off).take len).length = len := by simp; omega
          have olds_run : ∃ olds, (Builtin.firstCells es len (.slice base len cp)).run X.P w.drew = .ok olds.toArray w.drew ∧ Tr.row e.ro es ((xs.drop off).take len) olds := by
            by_cases h0 : len = 0
            · refine ⟨[], ?_, ?_⟩
              · subst h0
                cases base with
                | none => rfl
                | some ad => simp [Builtin.firstCells, loadCells, loadCellsFrom]
              · have : (xs.drop off).take len = [] := List.length_eq_zero_iff.1 (by rw [hxlen]; exact h0)
                rw [this]; simp [Tr.row]
            · obtain ⟨olds, ho1, ho2⟩ := holds h0
              refine ⟨olds, ?_, ho2⟩
              rcases hbase with hz0 | rfl
              · omega
              · have hlo := Tr.row_length ho2
                rw [hxlen] at hlo
                have := run_loadCells_sub (P := X.P) (w := w.drew) (k := blk) (cs := cc) (t := tt) (fz := fz) hoo ho1
                simp only [Builtin.firstCells, ← hlo]
                simpa using this
          -- in place
          have place (hroom : len + ys.length ≤ cp) (hfit : off + len + ys.length ≤ xs.length) (capN : Option Nat)
              (hcn : match capN with
                | some k => cp = k
                | none => (0 : Nat) = 0 ∧ ([] : List Nat) = [] ∧ off ≤ rc ∧ cp = rc - off) (hcn2 : off + capN.getD 0 ≤ xs.length)
              (h : sat X Q (k (.sl b 0 [] off (len + ys.length) capN) (H.set b (.row es (over xs (off + len) ys))))) :
              ∃ v cv e' H' w', (Builtin.append_ #[t, tx] ty #[cs, c]).run X.P w = .ok cv w' ∧ AV.val e' v cv ∧ Step X.G e H w e' H' w' ∧ sat X Q (k v H') := by
            by_cases h0 : ys.length = 0
            · have hys : ys = [] := List.length_eq_zero_iff.1 h0
              subst hys
              have hnews : news = [] := by simpa [Tr.row] using hny
              subst hnews
              have hrun := run_append_nothing w t tx ty el i hT.ht hi base len cp hle c (by rw [hsz]; exact hsrc)
              have he : H.set b (.row es (over xs (off + len) [])) = H := by
                apply List.ext_getElem?
                intro j
                rw [List.getElem?_set]
                by_cases hj : b = j
                · subst hj; rw [if_pos rfl, if_pos (lt_of_get hob), hob]; simp [over]
                · rw [if_neg hj]
              rw [he] at h
              refine ⟨_, _, e, H, w, by rw [hc]; exact hrun, ?_, Step.refl hr, h⟩
              simp only [AV.val, AV.leaf]
              refine .inr ⟨blk, es, rc, nn, base, cp, hβ, by simp, by simpa using hle, fun n' hn' => ?_, hcn, hbase⟩
              rw [hn] at hn'; obtain rfl := Option.some.inj hn'
              simp; omega
            · have hb1 : base = some ⟨blk, 0 + off * es, none⟩ := by
                rcases hbase with hz0 | hz0
                · omega
                · exact hz0
              have hstore := run_storeCells_over (P := X.P) (k := blk) (t := tt) (fz := fz) (off * es + len * es) news 0 cc w hoo hfz (by
                rw [Nat.add_zero, hl, ← Nat.add_mul, ← Nat.add_mul, hcsz]
                exact Nat.mul_le_mul_right _ (by omega)) (fun u hu => Tr.row_one hny u hu)
              have hrun := append_room (P := X.P) t tx ty el i hT.ht hi blk (0 + off * es) len cp c ys.length news (by rw [hsz]; exact hsrc) hroom (by rw [hsz]; simpa using hstore)
              have hrow' := Tr.row_over hrow hny (off + len) (by omega)
              have hsub : Sub mid ((off + len) * es) ((mid.drop ((off + len) * es)).take news.length) := by
                refine ⟨mid.take ((off + len) * es), (mid.drop ((off + len) * es)).drop news.length, ?_, ?_⟩
                · rw [List.take_append_drop, List.take_append_drop]
                · rw [List.length_take, Nat.min_eq_left]; rw [hml]; exact Nat.mul_le_mul_right _ (by omega)
              have hsl : ((mid.drop ((off + len) * es)).take news.length).length = news.length := by
                rw [List.length_take, List.length_drop, Nat.min_eq_left]
                rw [hml, hl, ← Nat.sub_mul]; exact Nat.mul_le_mul_right _ (by omega)
              have hover : over cc.toList ((off + len) * es) news = over mid ((off + len) * es) news ++ post := by
                have := over_over hs0 hsub (mid' := news) hsl.symm
                rw [Nat.zero_add] at this
                rw [← this]
                have hl2 : (over mid ((off + len) * es) news).length = mid.length := over_length _ _ _ (by have := hsub.len; omega)
                have h3 := over_pre (pre := []) (mid := mid) (post := post) hl2
                rw [hcs]
                simpa using h3
              have hcl : (over cc.toList ((off + len) * es) news).length = cc.toList.length := over_length _ _ _ (by
                have h1 := (hs0.trans hsub).len; rw [hsl] at h1; omega)
              have hstep := Step.set hr hob (by simp) hβ (o' := .row es (over xs (off + len) ys)) (ob' := .cells (over cc.toList ((off + len) * es) news).toArray tt fz)
                ⟨rfl, by rw [hn, over_length _ _ _ (by omega)], _, tt, fz, rfl, by rw [List.size_toArray, hcl]; simpa using hfz, by rw [List.size_toArray, hcl]; simpa using hcsz, by rw [over_length _ _ _ (by omega)]; exact hxc, by
                  intro c1 hc1
                  simp only [over, List.mem_append] at hc1
                  rcases hc1 with (hc1 | hc1) | hc1
                  · exact hones c1 (List.mem_of_mem_take hc1)
                  · exact Tr.row_one hny c1 hc1
                  · exact hones c1 (List.mem_of_mem_drop hc1), _, post, by simpa using hover, hrow'⟩
              refine ⟨_, _, e, _, _, by rw [hc, hb1]; exact hrun, ?_, ?_, h⟩
              · simp only [AV.val, AV.leaf]
                refine .inr ⟨blk, es, rc, nn, _, cp, hβ, by simp, hroom, fun n' hn' => ?_, hcn, .inr rfl⟩
                rw [hn] at hn'; obtain rfl := Option.some.inj hn'
                exact ⟨by omega, rfl, hcn2⟩
              · have e1 : off * es + len * es = (off + len) * es := by rw [Nat.add_mul]
                simp only [e1]; exact hstep
          cases cap with
          | some c0 =>
            simp only at hcap
            subst hcap
            cases cp with
            | zero =>
              have hl0 : len = 0 := by omega
              subst hl0
              exact empty0 hc h rfl
            | succ c1 =>
              simp only [Option.getD_some] at hin2
              by_cases hroom : len + ys.length ≤ c1 + 1
              · have h := h.1 (by simpa using hroom)
                obtain ⟨_, h⟩ := sat_setK h
                exact place hroom (by omega) (some (c1 + 1)) rfl (by simpa using hin2) h
              · obtain ⟨hrm, h⟩ := h.2 (by simpa using hroom)
                rw [newK_eq] at h
                obtain ⟨olds, ho1, ho2⟩ := olds_run
                obtain ⟨v, w', cap, h1, h2, h3⟩ := grow_row (ty := ty) hr hT ho1 ho2 hxlen hny hsrc (by omega) hrm
                exact ⟨_, v, _, _, w', by rw [hc]; exact h1, h3, h2, h⟩
          | none =>
            simp only at hcap
            cases inn with
            | true =>
              obtain ⟨hb, h⟩ := h
              have hb := of_decide_eq_true hb
              obtain ⟨_, h⟩ := sat_setK h
              exact place (by omega) hb none ⟨rfl, rfl, hcap.2.2.1, hcap.2.2.2⟩ (by simp; omega) h
            | false =>
              obtain ⟨hb, hrm, hz1⟩ := h
              obtain ⟨hb1, hb2⟩ := of_decide_eq_true hb
              have hz2 : sat X Q (k (.sl (H.set b .gone).length 0 [] 0 (xs.take len ++ ys).length none) (H.set b .gone ++ [.row es (xs.take len ++ ys)])) := by
                cases hbl : Nat.beq len xs.length with
                | true =>
                  obtain ⟨_, hz3⟩ := sat_setK (hz1.1 hbl)
                  rw [newK_eq] at hz3
                  have := beq_eq hbl
                  rw [this, List.take_length]
                  exact hz3
                | false =>
                  obtain ⟨_, hz3⟩ := sat_setK (hz1.2 hbl)
                  rw [newK_eq] at hz3
                  exact hz3
              subst hb1
              have hob0 := hob
              obtain ⟨mid0, post0, hmid, hrow0, _⟩ := Tr.row_split (xs := xs.take len) (ys := xs.drop len) (cs := mid) (by rw [List.take_append_drop]; exact hrow)
              have hcs0 : cc.toList = mid0 ++ (post0 ++ post) := by rw [hcs, hmid, List.append_assoc]
              have hxc0 : (xs.take len).length ≤ rc := by rw [List.length_take]; omega
              have hlen0 : len = (xs.take len).length := by rw [List.length_take]; omega
              have hml0 := Tr.row_length hrow0
              obtain ⟨olds, ho1, ho2⟩ := olds_run
              have hxd : (xs.drop 0).take len = xs.take len := by simp
              rw [hxd] at ho2 hxlen
              generalize hxs' : xs.take len = xs' at *
              clear hrow hcs hml hxc
              have hrow := hrow0
              have hcs := hcs0
              have hxc := hxc0
              have hml := hml0
              generalize post0 ++ post = post at *
              generalize mid0 = mid at *
              subst hlen0
              have h := hz2
              by_cases hroom : xs'.length + ys.length ≤ cp
              · -- in place
                have hrow2 := Tr.row_append hrow hny
                have fin (ob' : Obj) (w' : World) (hw : w' = World.setBlk w blk ob') (ho : (AO.row es (xs' ++ ys)).rel e es rc (some (xs' ++ ys).length) ob')
                    (hrun : (Builtin.append_ #[t, tx] ty #[.slice base xs'.length cp, c]).run X.P w = .ok (.slice base (xs'.length + ys.length) cp) w') (hbb : cp = 0 ∨ base = some ⟨blk, 0 + 0 * es, none⟩) :
                    ∃ v cv e' H' w', (Builtin.append_ #[t, tx] ty #[cs, c]).run X.P w = .ok cv w' ∧ AV.val e' v cv ∧ Step X.G e H w e' H' w' ∧ sat X Q (k v H') := by
                  have hst := Step.rename hr hob (by simp) hβ (o' := .row es (xs' ++ ys)) (ob' := ob') ho
                  subst hw
                  refine ⟨_, _, _, _, _, by rw [hc]; exact hrun, ?_, hst, h⟩
                  simp only [AV.val, AV.leaf, List.length_set]
                  refine .inr ⟨blk, es, rc, _, _, cp, e.bind_same _ _, by simp, by simpa using hroom, fun n' hn' => ?_, ⟨rfl, rfl, hcap.2.2.1, hcap.2.2.2⟩, hbb⟩
                  obtain rfl := Option.some.inj hn'
                  simp
                by_cases h0 : ys.length = 0
                · have hys : ys = [] := List.length_eq_zero_iff.1 h0
                  subst hys
                  have hnews : news = [] := by simpa [Tr.row] using hny
                  subst hnews
                  have hrun := run_append_nothing w t tx ty el i hT.ht hi base xs'.length cp hle c (by rw [hsz]; exact hsrc)
                  exact fin (.cells cc tt fz) w (setBlk_self hoo).symm ⟨rfl, rfl, cc, tt, fz, rfl, hfz, hcsz, by simpa using hxc, hones, mid, post, hcs, by simpa using hrow⟩ (by simpa using hrun) hbase
                · have hb1 : base = some ⟨blk, 0 + 0 * es, none⟩ := by
                    rcases hbase with hz0 | hz0
                    · omega
                    · exact hz0
                  have hcl0 : cc.toList.length = rc * es := by simpa using hcsz
                  have hfit : xs'.length * es + news.length ≤ cc.toList.length := by
                    rw [hl, ← Nat.add_mul, hcl0]; exact Nat.mul_le_mul_right _ (by omega)
                  have hstore := run_storeCells_over (P := X.P) (k := blk) (t := tt) (fz := fz) (xs'.length * es) news 0 cc w hoo hfz (by simpa using hfit) (fun u hu => Tr.row_one hny u hu)
                  have hrun := append_room (P := X.P) t tx ty el i hT.ht hi blk (0 + 0 * es) xs'.length cp c ys.length news (by rw [hsz]; exact hsrc) hroom (by rw [hsz]; simpa using hstore)
                  have hcl : (over cc.toList (xs'.length * es) news).length = cc.toList.length := over_length _ _ _ hfit
                  have hov : over cc.toList (xs'.length * es) news = (mid ++ news) ++ post.drop news.length := by
                    rw [hcs]
                    simp only [over, ← hml, List.take_append_of_le_length (Nat.le_refl _), List.take_of_length_le (Nat.le_refl _), List.drop_append, Nat.add_sub_cancel_left]
                    rw [List.drop_eq_nil_of_le (by omega)]; simp
                  refine fin (.cells (over cc.toList (xs'.length * es) news).toArray tt fz) _ rfl ⟨rfl, rfl, _, tt, fz, rfl, by rw [List.size_toArray, hcl]; simpa using hfz, by rw [List.size_toArray, hcl]; simpa using hcsz, by simp; omega, by
                    intro c1 hc1
                    simp only [over, List.mem_append] at hc1
                    rcases hc1 with (hc1 | hc1) | hc1
                    · exact hones c1 (List.mem_of_mem_take hc1)
                    · exact Tr.row_one hny c1 hc1
                    · exact hones c1 (List.mem_of_mem_drop hc1), mid ++ news, post.drop news.length, by simpa using hov, hrow2⟩ ?_ (.inr hb1)
                  rw [hb1]
                  simpa using hrun
              · have hg := Step.gone hr b
                obtain ⟨v, w', cap, h1, h2, h3⟩ := grow_row (ty := ty) hg.rel hT ho1 ho2 rfl hny hsrc (by omega) hrm
                refine ⟨_, v, _, _, w', by rw [hc]; exact h1, ?_, hg.trans h2, h⟩
                simpa using h3
  · exact h.elim
end Stk
end

section
/- The framework, part 10: appends, copies, what is made. -/
namespace Stk
open Go
variable {X : Cx} {Q : Ex → Fr → Hp → Prop} {e : Env} {H : Hp} {w : World}

theorem rels_row {m : Nat → Option (List Value)} {esz : Nat} : ∀ {ys : List Tr} {cs : List Value}, Tr.rels m ys cs → Tr.allSz esz ys = true → Tr.row m esz ys cs
  | [], _, h, _ => h
  | y :: ys, cs, h, hs => by
    simp only [Tr.rels] at h
    simp only [Tr.allSz, Bool.and_eq_true] at hs
    obtain ⟨a, b, rfl, h1, h2⟩ := h
    simp only [Tr.row]
    exact ⟨a, b, rfl, by rw [Tr.rel_length h1, beq_eq hs.1], h1, rels_row h2 hs.2⟩

def chkApp (P : Program) (t tx : TypeId) (esz bytes : Nat) : Bool :=
  match P.underlying t with
  | some (.slice el) => (match P.info? el with
    | some i => i.size == esz && i.bytes == bytes && (match i.zero with
      | some z => z.cells.size == esz && z.cells.toList.all Value.oneCell'
      | none => false)
    | none => false) && (match P.underlying tx with
    | some (.slice _) => true
    | some .string => true
    | _ => false)
  | _ => false
theorem chkApp_ty {P : Program} {t tx : TypeId} {esz bytes : Nat} (h : chkApp P t tx esz bytes = true) : ∃ el, AppTy P t tx el esz bytes := by
  unfold chkApp at h
  split at h
  · rename_i el hel
    simp only [Bool.and_eq_true] at h
    obtain ⟨h1, h2⟩ := h
    split at h1
    · rename_i i hi
      simp only [Bool.and_eq_true, beq_iff_eq] at h1
      obtain ⟨⟨h3, h4⟩, h5⟩ := h1
      split at h5
      · rename_i z hz
        simp only [Bool.and_eq_true, beq_iff_eq, List.all_eq_true] at h5
        refine ⟨el, hel, ⟨i, z, hi, h3, h4, hz, h5.1, fun c hc => h5.2 c hc⟩, ?_⟩
        split at h2
        · rename_i e' he'; exact .inl ⟨e', he'⟩
        · rename_i he'; exact .inr he'
        · cases h2
      · cases h5
    · cases h1
  · cases h

theorem sat_app4 {o off : Nat} {p : List Nat} {b : Bool} {K K' : T} (h : sat X Q (match o, p, off, b with
            | 0, [], 0, true => K
            | _, _, _, _ => K')) : (o = 0 ∧ p = [] ∧ off = 0 ∧ b = true ∧ sat X Q K) ∨ sat X Q K' := by
  cases o <;> cases p <;> cases off <;> cases b <;> first | exact .inl ⟨rfl, rfl, rfl, rfl, h⟩ | exact .inr h

theorem op_append {inn : Bool} {esz bytes : Nat} {s x : Opd} {s' x' : Operand} {t tx : TypeId} (hs1 : chkOpd X.G s s' = true) (hx1 : chkOpd X.G x x' = true) (hT : chkApp X.P t tx esz bytes = true) :
    OpS X (.call { callee := .builtin .append, args := #[s', x'], argTypes := #[t, tx] }) (.append inn esz bytes s x) := by
  intro o ho e H w fr a Q k hr hf hs
  have hsv := chkOpd_val hr hf hs1
  have hxv := chkOpd_val hr hf hx1
  obtain ⟨el, hT⟩ := chkApp_ty hT
  simp only [opT, evK_eq] at hs
  have fin {e1 : Env} {H1 : Hp} (s1 : Step X.G e H w e1 H1 w) {ys : List Tr} {news : List Value} (hny : Tr.row e1.ro esz ys news) (hsrc : Go.Src X.P esz tx (a.eval x') ys.length news w) (h : sat X Q (appendK inn esz bytes H1 (s.at fr) ys k)) :
      Out X e H w Q k ((execOp a.eval o).run X.P w) := by
    obtain ⟨v, cv, e', H', w', hrun, hv, hst, hk⟩ := append_sound (ty := o.type) s1.rel hT (AV.val_to (s1.to hr) hsv) hny hsrc h
    have : (execOp a.eval o).run X.P w = .ok (.value cv) w' := by
      rw [run_call_builtin ho]
      simp only [builtin]
      exact run_v (by simpa using hrun)
    rw [this]
    exact ⟨v, cv, e', H', w', .inl rfl, hv, s1.trans hst, hk⟩
  have plain (h : sat X Q (elemsK esz H (x.at fr) fun ys => appendK inn esz bytes H (s.at fr) ys k)) : Out X e H w Q k ((execOp a.eval o).run X.P w) := by
    obtain ⟨ys, news, h, hrow, hform⟩ := elems_sound hr hxv h
    exact fin (Step.refl hr) hrow (src_of hT.kind hrow hform) h
  have main (h : sat X Q (match x.at fr with
      | .sl c o p off len _ => nthK (fun ob => match ob with
          | .var (.agg vs) => match o, p, off, Nat.beq len vs.length with
            | 0, [], 0, true => frzsK H vs fun ys H1 => match Tr.allSz esz ys with
              | true => appendK inn esz bytes H1 (s.at fr) ys k
              | false => .stuck "append: size"
            | _, _, _, _ => elemsK esz H (x.at fr) fun ys => appendK inn esz bytes H (s.at fr) ys k
          | _ => elemsK esz H (x.at fr) fun ys => appendK inn esz bytes H (s.at fr) ys k) c H
      | _ => elemsK esz H (x.at fr) fun ys => appendK inn esz bytes H (s.at fr) ys k)) : Out X e H w Q k ((execOp a.eval o).run X.P w) := by
    split at h
    · rename_i b oo p off len cap hxa
      obtain ⟨ob, hob, h⟩ := sat_nthK h
      split at h
      · rename_i vs
        rcases sat_app4 h with ⟨eo, ep, eoff, hlen, hz⟩ | h
        rotate_left
        · exact plain h
        · have hlen := beq_eq hlen
          subst eo ep eoff
          rw [hxa] at hxv
          simp only [AV.val, AV.leaf] at hxv
          rcases hxv with ⟨hβ, _, _, _, hl0, _, base, hc⟩ | ⟨blk, es, rc, nn, base, cp, hβ, hc, hle, hin, hcap, hbase⟩
          · obtain ⟨es', he' | he'⟩ := hr.virt b _ hob (by simp) hβ <;>
            cases he'
          · obtain ⟨oo, hoo, hrel⟩ := hr.obj b _ hob (by simp) _ _ _ _ hβ
            obtain ⟨_, rfl, cs, tt, fz, rfl, hvr, _⟩ := hrel
            simp only [AV.rel] at hvr
            obtain ⟨ys, e1, H1, h, s1, hys, hvl⟩ := frzs_sound hr hvr hz
            obtain ⟨hall, h⟩ := sat_t h
            have hrow := rels_row hys hall
            refine fin s1 hrow (src_of hT.kind hrow (.inl ⟨base, cp, ?_, ?_⟩)) h
            · rw [hvl, ← hlen]; simpa using hc
            · rcases hbase with h0 | rfl
              · left
                have : ys.length = 0 := by omega
                have : ys = [] := List.length_eq_zero_iff.1 this
                subst this; simpa [Tr.row] using hrow
              · right; exact ⟨_, rfl, rfl, cs, tt, fz, hoo, by simpa using Sub.refl cs.toList⟩
      · exact plain h
    · exact plain h
  split at hs
  · exact main hs
  · exact main hs
  · exact hs.elim

theorem zeroCells_succ (zs : Array Value) (n : Nat) : (Builtin.zeroCells zs (n + 1)).toList = zs.toList ++ (Builtin.zeroCells zs n).toList := by
  by_cases hz : zs.size = 0
  · have : zs = #[] := Array.size_eq_zero_iff.1 hz
    subst this; simp [Builtin.zeroCells]
  have hpos : 0 < zs.size := by omega
  have hget : ∀ n j, (Builtin.zeroCells zs n).toList[j]? = if j < n * zs.size then zs[j % zs.size]? else none := by
    intro n j
    simp only [Builtin.zeroCells, Array.toList_map, List.getElem?_map]
    by_cases hj : j < n * zs.size
    · rw [if_pos hj]
      have : (Array.range (n * zs.size)).toList[j]? = some j := by simp [hj]
      have hlt := Nat.mod_lt j hpos
      rw [this, Array.getElem?_eq_getElem hlt]
      simp [getElem!_pos zs (j % zs.size) hlt]
    · rw [if_neg hj]
      have : (Array.range (n * zs.size)).toList[j]? = none := by
        rw [List.getElem?_eq_none]; simp; omega
      rw [this]; rfl
  apply List.ext_getElem?
  intro j
  rw [hget, List.getElem?_append]
  simp only [Array.length_toList]
  by_cases hj : j < zs.size
  · rw [if_pos hj, if_pos (by rw [Nat.succ_mul]; omega), Nat.mod_eq_of_lt hj]; simp
  · rw [if_neg hj, hget, Nat.succ_mul]
    have : (j - zs.size) % zs.size = j % zs.size := by
      have := Nat.mod_eq_sub_mod (a := j) (b := zs.size) (by omega)
      exact this.symm
    rw [this]
    by_cases h2 : j < n * zs.size + zs.size
    · rw [if_pos h2, if_pos (by omega)]
    · rw [if_neg h2, if_neg (by omega)]

theorem made_row {m : Nat → Option (List Value)} {z : Tr} {zs : Array Value} (h : Tr.rel m z zs.toList) : ∀ n, Tr.row m zs.size (List.replicate n z) (Builtin.zeroCells zs n).toList
  | 0 => by simp [Tr.row, Builtin.zeroCells]
  | n + 1 => by
    rw [zeroCells_succ]
    simp only [List.replicate_succ, Tr.row]
    exact ⟨zs.toList, _, rfl, by simp, h, made_row h n⟩

/-! ### Writing -/
def storeAll (base : Option Addr) (news : List Value) : Sem Unit :=
  match base with
  | some ad => storeCells ad news
  | none => pure ()
theorem write_sound (hr : Rel X.G e H w) {d : AV} {cd : Value} (hd : AV.val e d cd) {esz : Nat} {ys : List Tr} {news : List Value} (hny : Tr.row e.ro esz ys news) {k : Hp → T} (h : sat X Q (writeK esz H d ys k))
    (hlen : ∀ base len cp, cd = .slice base len cp → ys.length ≤ len) :
    ∃ H' w', sat X Q (k H') ∧ Step X.G e H w e H' w' ∧ ∃ base len cp, cd = .slice base len cp ∧ (news ≠ [] → base ≠ none) ∧ ∀ P : Program, (storeAll base news).run P w = .ok () w' := by
  have hl := Tr.row_length hny
  unfold writeK at h
  split at h
  · rename_i b o p off len cap
    obtain ⟨ob, hob, h⟩ := sat_nthK h
    simp only [AV.val, AV.leaf] at hd
    cases ob with
    | map _ => exact h.elim
    | gone => exact h.elim
    | mapI es i => exact h.elim
    | iter m es left last => exact h.elim
    | dr e' ms h' => exact h.elim
    | row es xs =>
      have h' : p = [] ∧ Nat.beq es esz = true ∧ sat X Q (setK (.row es (over xs off ys)) b H k) := by
        cases p with
        | nil =>
          simp only at h
          cases hb : Nat.beq es esz with
          | true => rw [hb] at h; exact ⟨rfl, rfl, h⟩
          | false => rw [hb] at h; exact h.elim
        | cons _ _ => exact h.elim
      obtain ⟨hp0, he, hz⟩ := h'
      have he := beq_eq he
      subst hp0 he
      obtain ⟨_, hk⟩ := sat_setK hz
      have noth (hys : ys = []) : H.set b (.row es (over xs off ys)) = H := by
        subst hys
        apply List.ext_getElem?
        intro j
        rw [List.getElem?_set]
        by_cases hj : b = j
        · subst hj; rw [if_pos rfl, if_pos (lt_of_get hob), hob]; simp [over]
        · rw [if_neg hj]
      rcases hd with ⟨hβ, rfl, _, rfl, rfl, hcp, base, hc⟩ | ⟨blk, es', rc, nn, base, cp, hβ, hc, hle, hin, hcap, hbase⟩
      · have hc : cd = .slice base 0 0 := by simpa using hc
        have hys : ys = [] := by rw [← List.length_eq_zero_iff]; have := hlen _ _ _ hc; omega
        have hnews : news = [] := by subst hys; simpa [Tr.row] using hny
        refine ⟨_, w, hk, by rw [noth hys]; exact Step.refl hr, base, 0, 0, hc, fun hh => absurd hnews hh, fun P => ?_⟩
        subst hnews; cases base <;> rfl
      · have hc : cd = .slice base len cp := by simpa using hc
        have hyl := hlen _ _ _ hc
        obtain ⟨oo, hoo, hrel⟩ := hr.obj b _ hob (by simp) _ _ _ _ hβ
        obtain ⟨rfl, hn, cc, tt, fz, rfl, hfz, hcsz, hxc, hones, mid, post, hcs, hrow⟩ := hrel
        obtain ⟨hin1, rfl, hin2⟩ := hin _ hn
        by_cases hys : ys = []
        · have hnews : news = [] := by subst hys; simpa [Tr.row] using hny
          refine ⟨_, w, hk, by rw [noth hys]; exact Step.refl hr, base, len, cp, hc, fun hh => absurd hnews hh, fun P => ?_⟩
          subst hnews; cases base <;> rfl
        · have hpos : 0 < ys.length := List.length_pos_iff.2 hys
          have hb1 : base = some ⟨blk, 0 + off * es, none⟩ := by
            rcases hbase with hz0 | hz0
            · omega
            · exact hz0
          subst hb1
          have hml := Tr.row_length hrow
          have hs0 : Sub cc.toList 0 mid := ⟨[], post, by simpa using hcs, rfl⟩
          have hfit : off * es + news.length ≤ cc.size := by
            rw [hl, ← Nat.add_mul, hcsz]; exact Nat.mul_le_mul_right _ (by omega)
          have hsub : Sub mid (off * es) ((mid.drop (off * es)).take news.length) := by
            refine ⟨mid.take (off * es), (mid.drop (off * es)).drop news.length, ?_, ?_⟩
            · rw [List.take_append_drop, List.take_append_drop]
            · rw [List.length_take, Nat.min_eq_left]; rw [hml]; exact Nat.mul_le_mul_right _ (by omega)
          have hsl : ((mid.drop (off * es)).take news.length).length = news.length := by
            rw [List.length_take, List.length_drop, Nat.min_eq_left]
            rw [hml, hl, ← Nat.sub_mul]; exact Nat.mul_le_mul_right _ (by omega)
          have hover : over cc.toList (off * es) news = over mid (off * es) news ++ post := by
            have := over_over hs0 hsub (mid' := news) hsl.symm
            rw [Nat.zero_add] at this
            rw [← this]
            have hl2 : (over mid (off * es) news).length = mid.length := over_length _ _ _ (by have := hsub.len; omega)
            have h3 := over_pre (pre := []) (mid := mid) (post := post) hl2
            rw [hcs]
            simpa using h3
          have hcl : (over cc.toList (off * es) news).length = cc.toList.length := over_length _ _ _ (by simpa using hfit)
          have hrow' := Tr.row_over hrow hny off (by omega)
          have hstep := Step.set hr hob (by simp) hβ (o' := .row es (over xs off ys)) (ob' := .cells (over cc.toList (off * es) news).toArray tt fz)
            ⟨rfl, by rw [hn, over_length _ _ _ (by omega)], _, tt, fz, rfl, by rw [List.size_toArray, hcl]; simpa using hfz, by rw [List.size_toArray, hcl]; simpa using hcsz, by rw [over_length _ _ _ (by omega)]; exact hxc, by
              intro c1 hc1
              simp only [over, List.mem_append] at hc1
              rcases hc1 with (hc1 | hc1) | hc1
              · exact hones c1 (List.mem_of_mem_take hc1)
              · exact Tr.row_one hny c1 hc1
              · exact hones c1 (List.mem_of_mem_drop hc1), _, post, by simpa using hover, hrow'⟩
          refine ⟨_, _, hk, hstep, _, len, cp, hc, fun _ => by simp, fun P => ?_⟩
          have := run_storeCells_over (P := P) (k := blk) (t := tt) (fz := fz) (off * es) news 0 cc w hoo hfz (by simpa using hfit) (fun u hu => Tr.row_one hny u hu)
          simpa [storeAll] using this
    | var v =>
      obtain ⟨y, d, hp, h⟩ := sat_getA h
      simp only [Nat.zero_add] at h
      split at h
      · rename_i m xs hod hesz
        have hod := beq_eq hod
        have hesz := beq_eq hesz
        obtain ⟨hb, hz⟩ := h
        simp only [Bool.and_eq_true, decide_eq_true_eq, Bool.not_eq_true'] at hb
        subst hod hesz
        obtain ⟨v', hv', h7⟩ := sat_setA hz
        obtain ⟨_, h6⟩ := sat_setK h7
        rcases hd with ⟨hβ, _⟩ | ⟨blk, es', rc, nn, base, cp, hβ, hc, hle, hin, hcap, hbase⟩
        · obtain ⟨es', he' | he'⟩ := hr.virt b _ hob (by simp) hβ <;>
          cases he'
        · have hc : cd = .slice base len cp := by simpa using hc
          have hyl := hlen _ _ _ hc
          obtain ⟨oo, hoo, hrel⟩ := hr.obj b _ hob (by simp) _ _ _ _ hβ
          obtain ⟨hnn, rfl, cs, t, fz, rfl, hvr, hfz⟩ := hrel
          obtain ⟨mid, hs, hy, hu⟩ := pathA_sound (y := .t (.arr m (over xs off ys))) hp hvr
          simp only [AV.rel, AV.leaf, Tr.rel] at hy
          have hol := Tr.ones_length hy.2
          have honesY : Tr.ones e.ro ys news := by
            have hna : ∀ y ∈ ys, y.isAgg = false := by
              intro y hy'
              have := hb.2
              rw [List.any_eq_false] at this
              simpa using this y hy'
            have : ∀ (ys : List Tr) (news : List Value), Tr.row e.ro 1 ys news → (∀ y ∈ ys, y.isAgg = false) → Tr.ones e.ro ys news := by
              intro ys
              induction ys with
              | nil => intro news h _; exact h
              | cons y r ih =>
                intro news h hna
                simp only [Tr.row] at h
                obtain ⟨a, b, rfl, h1, h2, h3⟩ := h
                match a, h1, h2 with
                | [c], _, h2 => simp only [Tr.ones]; exact ⟨c, b, rfl, hna y (by simp), h2, ih b h3 fun z hz => hna z (by simp [hz])⟩
            exact this ys news hny hna
          have hnl : news.length = ys.length := by simpa using hl
          have hnew : Tr.ones e.ro (over xs off ys) (over mid off news) := by
            have e1 : xs = xs.take off ++ ((xs.drop off).take ys.length ++ (xs.drop off).drop ys.length) := by rw [List.take_append_drop, List.take_append_drop]
            have h1 := hy.2
            rw [e1] at h1
            obtain ⟨a, b, hab, ha, hb'⟩ := Tr.ones_split h1
            obtain ⟨c, d', rfl, hc', hd'⟩ := Tr.ones_split hb'
            have la := Tr.ones_length ha
            have lc := Tr.ones_length hc'
            have : over mid off news = a ++ (news ++ d') := by
              subst hab
              have hla : a.length = off := by rw [la, List.length_take, Nat.min_eq_left (by omega)]
              have hlc : news.length = c.length := by rw [lc, hnl, List.length_take, List.length_drop, Nat.min_eq_left (by omega)]
              rw [← hla]; exact over_pre hlc
            rw [this]
            have e3 : over xs off ys = xs.take off ++ (ys ++ (xs.drop off).drop ys.length) := by simp [over]
            rw [e3]
            exact Tr.ones_append ha (Tr.ones_append honesY hd')
          have hsub : Sub mid off ((mid.drop off).take news.length) := by
            refine ⟨mid.take off, (mid.drop off).drop news.length, ?_, ?_⟩
            · rw [List.take_append_drop, List.take_append_drop]
            · rw [List.length_take, Nat.min_eq_left]; omega
          have hsl : ((mid.drop off).take news.length).length = news.length := by
            rw [List.length_take, List.length_drop, Nat.min_eq_left]; omega
          have hml2 : (over mid off news).length = mid.length := over_length _ _ _ (by omega)
          have hnew2 := hu v' hv' (over mid off news) (by simp only [AV.rel, AV.leaf, Tr.rel]; exact ⟨by rw [over_length _ _ _ (by omega)]; exact hy.1, hnew⟩) hml2
          rw [over_over hs hsub hsl.symm] at hnew2
          have hcl : (over cs.toList (o + off) news).length = cs.toList.length := over_length _ _ _ (by have := (hs.trans hsub).len; omega)
          by_cases hys : ys = []
          · have hnews : news = [] := by subst hys; simpa [Tr.row] using hny
            subst hnews
            have e1 : over cs.toList (o + off) [] = cs.toList := by simp [over]
            rw [e1] at hnew2
            have hstep := Step.set hr hob (by simp) hβ (o' := .var v') (ob' := .cells cs t fz) ⟨hnn, rfl, cs, t, fz, rfl, hnew2, hfz⟩
            rw [setBlk_self hoo] at hstep
            refine ⟨_, w, h6, hstep, base, len, cp, hc, fun hh => absurd rfl hh, fun P => ?_⟩
            cases base <;> rfl
          · have hpos : 0 < ys.length := List.length_pos_iff.2 hys
            have hb1 : base = some ⟨blk, o + off * 1, none⟩ := by
              rcases hbase with hz0 | hz0
              · omega
              · exact hz0
            subst hb1
            have hstep := Step.set hr hob (by simp) hβ (o' := .var v') (ob' := .cells (over cs.toList (o + off) news).toArray t fz)
              ⟨hnn, rfl, _, t, fz, rfl, by simpa using hnew2, by rw [List.size_toArray, hcl]; simpa using hfz⟩
            refine ⟨_, _, h6, hstep, _, len, cp, hc, fun _ => by simp, fun P => ?_⟩
            have := run_storeCells_over (P := P) (k := blk) (t := t) (fz := fz) (o + off) news 0 cs w hoo hfz (by have := (hs.trans hsub).len; simp at this; omega) (fun u hu => Tr.row_one hny u hu)
            simpa [storeAll] using this
      · exact h.elim
  · exact h.elim

/-- A source, for copy. -/
theorem op_copy {esz : Nat} {d s : Opd} {d' s' : Operand} {t tx el : TypeId} (hd1 : chkOpd X.G d d' = true) (hs1 : chkOpd X.G s s' = true) (ht : X.P.underlying t = some (.slice el)) (hsz : (X.P.info? el).map (·.size) = some esz) :
    OpS X (.call { callee := .builtin .copy, args := #[d', s'], argTypes := #[t, tx] }) (.copy esz d s) := by
  intro o ho e H w fr a Q k hr hf hs
  have hdv := chkOpd_val hr hf hd1
  have hsv := chkOpd_val hr hf hs1
  simp only [opT, evK_eq] at hs
  -- what the source yields, cut
  have cut {ys : List Tr} {news : List Value} {c : Value} (hrow : Tr.row e.ro esz ys news)
      (hform : (∃ base cap, c = .slice base ys.length cap ∧ (news = [] ∨ ∃ ad, base = some ad ∧ ad.spot = none ∧ ∃ cs t fz, w.heap[ad.block]? = some (.cells cs t fz) ∧ Sub cs.toList ad.off news)) ∨ (∃ s, c = .string s ∧ esz = 1 ∧ ys.length = s.size ∧ news = byteCells s)) (dl : Nat) :
      ∃ n2, Tr.row e.ro esz (ys.take dl) n2 ∧ (Builtin.lenOf c).run X.P w = .ok ys.length w ∧ (Builtin.firstCells esz (min ys.length dl) c).run X.P w = .ok n2.toArray w := by
    obtain ⟨n2, hs2, hr2⟩ := Tr.row_cut hrow 0 dl
    simp only [Nat.zero_min, Nat.zero_mul, List.drop_zero] at hs2 hr2
    have hl2 := Tr.row_length hr2
    have hlt : (ys.take dl).length = min ys.length dl := by simp [Nat.min_comm]
    rw [hlt] at hl2
    refine ⟨n2, hr2, ?_, ?_⟩
    · rcases hform with ⟨base, cap, rfl, _⟩ | ⟨s, rfl, _, h1, _⟩
      · rfl
      · rw [h1]; rfl
    · rcases hform with ⟨base, cap, rfl, hn⟩ | ⟨s, rfl, rfl, h1, rfl⟩
      · rcases hn with rfl | ⟨ad, rfl, hsp, cs, t, fz, hk, hsub⟩
        · have : n2 = [] := by
            obtain ⟨p, q, h1, _⟩ := hs2
            have := congrArg List.length h1
            simp at this
            exact List.length_eq_zero_iff.1 (by omega)
          subst this
          have h0 : min ys.length dl * esz = 0 := by simpa using hl2.symm
          cases base with
          | none => rfl
          | some ad => simp only [Builtin.firstCells, h0]; rfl
        · have := run_loadCells_sub (P := X.P) hk (hsub.trans hs2)
          simp only [Builtin.firstCells, ← hl2]
          rw [addr_eta hsp]; simpa using this
      · have hn2 : n2 = (byteCells s).take (min ys.length dl) := by
          have := hs2.eq
          rw [List.drop_zero, hl2, Nat.mul_one] at this
          exact this.symm
        rw [hn2]
        simp only [Builtin.firstCells]
        simp only [Sem.run_pure]
        congr 1
        apply Array.ext'
        simp only [byteCells, Array.toList_map, ByteArray.data_extract, Array.toList_extract, List.extract_eq_take_drop, List.drop_zero, Nat.sub_zero]
        rw [← List.map_take]
  have run {base : Option Addr} {dl cp : Nat} {n : Nat} {c : Value} {n2 : List Value} {w' : World} (hc : a.eval d' = .slice base dl cp) (h1 : (Builtin.lenOf (a.eval s')).run X.P w = .ok n w)
      (h2 : (Builtin.firstCells esz (min n dl) (a.eval s')).run X.P w = .ok n2.toArray w) (h3 : (storeAll base n2).run X.P w = .ok () w') (_ : c = c) : (execOp a.eval o).run X.P w = .ok (.value (.int .i64 (min n dl : Nat))) w' := by
    rw [run_call_builtin ho]
    simp only [builtin]
    refine run_v ?_
    have e1 : Nat.min n dl = min n dl := rfl
    simp only [List.getElem?_toArray, Builtin.copy_]
    cases base with
    | none =>
      have h3 : w = w' := by simpa [storeAll] using h3
      subst h3
      simp [hc, Sem.run_bind, run_under ht, Result.andThen, h1, run_sizeOf hsz, e1, h2, goInt]
    | some ad =>
      simp only [storeAll] at h3
      simp [hc, Sem.run_bind, run_under ht, Result.andThen, h1, run_sizeOf hsz, e1, h2, goInt, h3]
  unfold copyK at hs
  split at hs
  · rename_i b oo p off dl cap hda
    rw [hda] at hs
    obtain ⟨ys, news, hs, hrow, hform⟩ := elems_sound hr hsv hs
    obtain ⟨n2, hr2, h1, h2⟩ := cut hrow hform dl
    rw [hda] at hdv
    have hdl : ∀ base len cp, a.eval d' = .slice base len cp → len = dl := by
      intro base len cp hc
      simp only [AV.val, AV.leaf] at hdv
      rcases hdv with ⟨_, _, _, _, rfl, _, base', hc'⟩ | ⟨_, _, _, _, base', c', _, hc', _⟩ <;> (rw [hc] at hc'; simp at hc'; omega)
    obtain ⟨H', w', hs, hst, base, len, cp, hc, hne, h3⟩ := write_sound hr hdv hr2 hs (fun base len cp hc => by rw [hdl _ _ _ hc]; simp; omega)
    have hlen := hdl _ _ _ hc
    subst hlen
    rw [run (c := a.eval s') hc h1 h2 (h3 X.P) rfl]
    exact ⟨_, _, e, H', w', .inl rfl, mk_int _ _ _, hst, hs⟩
  · exact hs.elim

theorem op_clear {esz : Nat} {z : Tr} {x : Opd} {x' : Operand} {t el : TypeId} (hx : chkOpd X.G x x' = true) (ht : X.P.underlying t = some (.slice el)) (hz : zeroOK X.P el z = true) (hsz : (X.P.info? el).map (·.size) = some esz) :
    OpS X (.call { callee := .builtin .clear, args := #[x'], argTypes := #[t] }) (.clear esz z x) := by
  intro o ho e H w fr a Q k hr hf hs
  have hxv := chkOpd_val hr hf hx
  simp only [opT, evK_eq] at hs
  obtain ⟨zv, i, hi, _, hzs, hzr, hzrun⟩ := zeroOK_run hz e.ro
  have hzsz : zv.cells.size = esz := by rw [hzs]; rw [hi] at hsz; simpa using hsz
  unfold clearK at hs
  split at hs
  · rename_i b oo p off dl cap hxa
    have hrow := made_row hzr dl
    rw [hzsz] at hrow
    rw [hxa] at hxv hs
    have hdl : ∀ base len cp, a.eval x' = .slice base len cp → len = dl := by
      intro base len cp hc
      simp only [AV.val, AV.leaf] at hxv
      rcases hxv with ⟨_, _, _, _, rfl, _, base', hc'⟩ | ⟨_, _, _, _, base', c', _, hc', _⟩ <;> (rw [hc] at hc'; simp at hc'; omega)
    obtain ⟨H', w', hz, hst, base, len, cp, hc, hne, h3⟩ := write_sound hr hxv hrow hs (fun base len cp hc => by rw [hdl _ _ _ hc]; simp)
    have hlen := hdl _ _ _ hc
    subst hlen
    have : (execOp a.eval o).run X.P w = .ok (.value (.tuple #[])) w' := by
      rw [run_call_builtin ho]
      simp only [builtin]
      refine run_v ?_
      have h4 := h3 X.P
      simp only [List.getElem?_toArray, Builtin.clear_]
      cases base with
      | none =>
        have h4 : w = w' := by simpa [storeAll] using h4
        subst h4
        simp [hc, run_under ht, Result.andThen]
      | some ad =>
        cases len with
        | zero =>
          have h0 : (Builtin.zeroCells zv.cells 0).toList = [] := by simp [Builtin.zeroCells]
          have h4 : w = w' := by simpa [storeAll, h0, storeCells] using h4
          subst h4
          simp [hc, run_under ht, Result.andThen]
        | succ n =>
          simp only [storeAll] at h4
          simp [hc, Sem.run_bind, run_under ht, Result.andThen, hzrun, h4]
    rw [this]
    exact ⟨_, _, e, H', w', .inl rfl, by simp [AV.val, AV.vals], hst, hz⟩
  · exact hs.elim

theorem op_mksl {esz bytes : Nat} {z : Tr} {l c : Opd} {l' c' : Operand} {t el : TypeId} (hl : chkOpd X.G l l' = true) (hc : chkOpd X.G c c' = true) (ht : X.P.underlying t = some (.slice el)) (hz : zeroOK X.P el z = true)
    (hsz : (X.P.info? el).map (fun i => (i.size, i.bytes)) = some (esz, bytes)) : OpS X (.makeSlice t l' c') (.mksl esz bytes z l c) := by
  intro o ho e H w fr a Q k hr hf hs
  have hlv := chkOpd_val hr hf hl
  have hcv := chkOpd_val hr hf hc
  obtain ⟨zv, i, hi, hiz, hzs, hzr, hzrun⟩ := zeroOK_run hz e.ro
  rw [hi] at hsz
  simp only [Option.map_some, Option.some.injEq, Prod.mk.injEq] at hsz
  obtain ⟨rfl, rfl⟩ := hsz
  simp only [opT, evK_eq] at hs
  obtain ⟨jl, nl, hla, hs⟩ := sat_intK hs
  obtain ⟨jc, nc, hca, hs⟩ := sat_intK hs
  rw [hla] at hlv; rw [hca] at hcv
  have evl := val_int hlv
  have evc := val_int hcv
  obtain ⟨hb, hs⟩ := hs
  obtain ⟨h0, h1, h2, h3⟩ := of_decide_eq_true hb
  rw [newK_eq] at hs
  have hb2 : (i.bytes : Int) * nc ≤ 281474976710656 := by rw [Int.mul_comm]; exact h2
  have hrun := run_make (P := X.P) w t _ i zv ht hi hiz jl jc nl nc h0 h1 hb2 (by omega)
  have hrow := made_row hzr nc.toNat
  rw [hzs] at hrow
  have hcells : Builtin.zeroCells zv.cells nc.toNat = madeCells zv.cells (nc.toNat * i.size) := by simp [Builtin.zeroCells, madeCells, hzs]
  rw [hcells] at hrow
  have : (execOp a.eval o).run X.P w = .ok (.value (.slice (some ⟨w.heap.size, 0, none⟩) nl.toNat nc.toNat)) (w.alloc (.cells (madeCells zv.cells (nc.toNat * i.size)) el)) := by
    simp only [execOp, ho]
    refine run_v ?_
    rw [evl, evc]; exact hrun
  rw [this]
  have hst := Step.new (o := .row i.size (List.replicate nc.toNat z)) (ob := .cells (madeCells zv.cells (nc.toNat * i.size)) el) (esz := i.size) (cap := nc.toNat) (n := some nc.toNat) hr
    ⟨rfl, by simp, _, _, (0, 0), rfl, ⟨Nat.le_refl _, fun j _ => by simp⟩, by simp [size_madeCells], by simp, fun c hc => Tr.row_one hrow c hc, _, [], by simp, hrow⟩
  refine ⟨_, _, _, _, _, .inl rfl, ?_, hst, hs⟩
  simp only [AV.val, AV.leaf]
  exact .inr ⟨_, _, _, _, _, _, e.bind_same _ _, rfl, by omega, fun n' hn' => by obtain rfl := Option.some.inj hn'; simp; omega, rfl, .inr (by simp)⟩

theorem op_s2b {s d el : TypeId} {x : Opd} {x' : Operand} (hx : chkOpd X.G x x' = true) (h1 : X.P.underlying s = some .string) (h2 : X.P.underlying d = some (.slice el)) (h3 : X.P.underlying el = some (.int .u8)) : OpS X (.convert s d x') (.s2b x) := by
  intro o ho e H w fr a Q k hr hf hs
  have hxv := chkOpd_val hr hf hx
  simp only [opT, evK_eq] at hs
  split at hs
  · rename_i s' hxa
    rw [hxa] at hxv
    rw [newK_eq] at hs
    have hrun := run_bytes_of_string (P := X.P) w s d el s' h1 h2 h3
    have : (execOp a.eval o).run X.P w = .ok (.value (.slice (some ⟨w.heap.size, 0, none⟩) s'.size (grownCap w s'.size 0 el))) (w.drew.alloc (.cells (bytesRow s' (grownCap w s'.size 0 el)) el ((bytesRow s' (grownCap w s'.size 0 el)).size, (bytesRow s' (grownCap w s'.size 0 el)).size + 1))) := by
      simp only [execOp, ho]
      refine run_v ?_
      rw [val_str hxv]; exact hrun
    rw [this]
    have hcap := grownCap_ge w s'.size 0 el
    have hsize : s'.data.size = s'.size := rfl
    have hrow : ∀ l : List UInt8, Tr.row e.ro 1 (l.map byteT) (l.map fun b => Value.int .u8 b.toNat) := by
      intro l
      induction l with
      | nil => simp [Tr.row]
      | cons b l ih => simp only [List.map_cons, Tr.row]; exact ⟨[.int .u8 b.toNat], _, rfl, rfl, by simp [byteT, Tr.rel], ih⟩
    have hd := Step.drew hr
    have hst := Step.new (o := .row 1 (s'.data.toList.map byteT)) (ob := .cells (bytesRow s' (grownCap w s'.size 0 el)) el ((bytesRow s' (grownCap w s'.size 0 el)).size, (bytesRow s' (grownCap w s'.size 0 el)).size + 1)) (esz := 1) (cap := grownCap w s'.size 0 el) (n := some (s'.data.toList.map byteT).length) hd.rel
      ⟨rfl, rfl, _, _, _, rfl, ⟨by simp, fun j hj => by simp; omega⟩, by simp [bytesRow, hsize]; omega, by simp [hsize]; exact hcap, by
        intro c hc
        simp only [bytesRow, Array.toList_append, List.mem_append, Array.toList_map, List.mem_map, Array.toList_replicate, List.mem_replicate] at hc
        rcases hc with ⟨b, _, rfl⟩ | ⟨_, rfl⟩ <;> rfl, _, _, by simp only [bytesRow, Array.toList_append, Array.toList_map]; rfl, hrow _⟩
    refine ⟨_, _, _, _, _, .inl rfl, ?_, hd.trans hst, hs⟩
    simp only [AV.val, AV.leaf]
    exact .inr ⟨w.heap.size, 1, grownCap w s'.size 0 el, some (s'.data.toList.map byteT).length, some ⟨w.heap.size, 0, none⟩, grownCap w s'.size 0 el, e.bind_same _ _, by simp [hsize], by simpa [hsize] using hcap, fun n' hn' => by obtain rfl := Option.some.inj hn'; simp, ⟨rfl, rfl, Nat.zero_le _, by simp⟩, .inr (by simp)⟩
  · exact hs.elim

theorem freeze_setBlk {w : World} {k : Nat} {cs : Array Value} {t : TypeId} {fz : Nat × Nat} (h : w.heap[k]? = some (.cells cs t fz)) (n : Nat) :
    w.freeze ⟨k, n, none⟩ 1 = World.setBlk w k (.cells cs t (if fz.1 == fz.2 then (n, n + 1) else (min fz.1 n, max fz.2 (n + 1)))) := by
  unfold World.freeze World.setBlk
  rw [if_neg (by decide)]
  congr 1
  apply Array.ext_getElem?
  intro j
  rw [Array.getElem?_modify, Array.getElem?_setIfInBounds]
  by_cases hj : k = j
  · subst hj
    rw [if_pos rfl, if_pos rfl, h, if_pos (lt_of_heap h)]
    rfl
  · rw [if_neg hj, if_neg hj]
theorem op_mks {s el : TypeId} {x : Opd} {x' : Operand} (hx : chkOpd X.G x x' = true) (h1 : X.P.underlying s = some (.slice el)) (h3 : X.P.underlying el = some (.int .u8)) : OpS X (.convert s s x') (.mks x) := by
  intro o ho e H w fr a Q k hr hf hs
  have hxv := chkOpd_val hr hf hx
  simp only [opT, evK_eq] at hs
  split at hs
  · rename_i b oo p off len cap hxa
    rw [hxa] at hxv
    obtain ⟨hlen, hs⟩ := hs
    have hlen : 0 < len := Nat.le_of_ble_eq_true hlen
    rw [nthK_eq] at hs
    split at hs
    · rename_i ob hob
      split at hs
      · rename_i esz xs
        have hxv0 := hxv
        simp only [AV.val, AV.leaf] at hxv
        rcases hxv with ⟨_, _, _, _, h0, _⟩ | ⟨blk, esz', rc, n, base, c, hβ, hcs, hlc, hn, hcap, hb⟩
        · omega
        have hb := hb.resolve_left (by omega)
        subst hb
        obtain ⟨ob', hob', hrel'⟩ := hr.obj b _ hob (by simp) blk esz' rc n hβ
        obtain ⟨rfl, hn', cs, t, fz, rfl, hz, hsz, hlc2, hon, mid, post, hcs2, hrow⟩ := hrel'
        have hval : a.eval x' = .slice (some ⟨blk, oo + off * esz, none⟩) len c := by simpa using hcs
        have hz' : NoFz cs.size (if fz.1 == fz.2 then (cs.size, cs.size + 1) else (min fz.1 cs.size, max fz.2 (cs.size + 1))) := by
          obtain ⟨z1, z2⟩ := hz
          by_cases hq : fz.1 == fz.2
          · rw [if_pos hq]; exact ⟨by simp, fun i hi => by simp; omega⟩
          · rw [if_neg hq]
            have hq : fz.1 ≠ fz.2 := by simpa using hq
            have : cs.size ≤ fz.1 := by
              rcases Nat.lt_or_ge fz.1 cs.size with hh | hh
              · exact absurd ⟨Nat.le_refl _, by omega⟩ (z2 fz.1 hh)
              · exact hh
            exact ⟨by simp; omega, fun i hi => by simp; omega⟩
        have hst := Step.set hr hob (by simp) hβ (o' := .row esz xs) ⟨rfl, hn', cs, t, _, rfl, hz', hsz, hlc2, hon, mid, post, hcs2, hrow⟩
        have hself : H.set b (.row esz xs) = H := by
          apply List.ext_getElem?
          intro j
          rw [List.getElem?_set]
          by_cases hj : b = j
          · subst hj
            rw [if_pos rfl, if_pos (lt_of_get hob), hob]
          · rw [if_neg hj]
        rw [hself] at hst
        refine ⟨_, _, _, _, _, .inl ?_, hxv0, hst, hs⟩
        simp only [execOp, ho]
        refine run_v ?_
        rw [hval]
        have hsh : w.shape? blk = some (t, cs.size) := by unfold World.shape?; rw [hob']
        simp [convert, run_underlying h1, run_underlying h3, markStringish, hsh]
        have hfz := freeze_setBlk hob' cs.size
        simpa using hfz
      · exact hs.elim
    · exact hs.elim
  · exact hs.elim

theorem strOf_eq (ns : List Int) : ns.foldl (fun (r : ByteArray) n => r.push (UInt8.ofNat n.toNat)) ByteArray.empty = ⟨(ns.map fun n => UInt8.ofNat n.toNat).toArray⟩ := by
  have : ∀ (ns : List Int) (r : ByteArray), ns.foldl (fun (r : ByteArray) n => r.push (UInt8.ofNat n.toNat)) r = ⟨r.data ++ (ns.map fun n => UInt8.ofNat n.toNat).toArray⟩ := by
    intro ns
    induction ns with
    | nil => intro r; simp
    | cons n ns ih => intro r; simp only [List.foldl_cons, ih, List.map_cons]; simp [ByteArray.push]
  rw [this]; simp [ByteArray.empty, ByteArray.emptyWithCapacity]; rfl

theorem elems_str {a : AV} {s : ByteArray} {esz : Nat} {k : List Tr → T} (ha : AV.val e a (.string s)) (h : sat X Q (elemsK esz H a k)) : ∃ s', a = .t (.str s') := by
  unfold elemsK at h
  split at h <;> first
    | exact ⟨_, rfl⟩
    | exact h.elim
    | (simp [AV.val, AV.leaf, Tr.rel, Tr.isAgg] at ha; done)
    | (simp only [AV.val, AV.leaf] at ha; rcases ha with ⟨_, _, _, _, _, _, _, h⟩ | ⟨_, _, _, _, _, _, _, h, _⟩ <;> simp at h)

theorem op_b2s {s d el : TypeId} {x : Opd} {x' : Operand} (hx : chkOpd X.G x x' = true) (h1 : X.P.underlying s = some (.slice el)) (h2 : X.P.underlying d = some .string) (h3 : X.P.underlying el = some (.int .u8)) : OpS0 X (.convert s d x') (.b2s x) := by
  intro o ho e H w fr a Q k hr hf hs
  have hxv := chkOpd_val hr hf hx
  simp only [opT, evK_eq] at hs
  split at hs
  · exact hs.elim
  rename_i hnostr
  have hs0 := hs
  obtain ⟨ys, news, hs, hrow, hform⟩ := elems_sound hr hxv hs
  obtain ⟨hb, hs⟩ := hs
  have hns : ∃ ns : List Int, news = ns.map (Value.int .u8) ∧ strOf ys = ⟨(ns.map fun n => UInt8.ofNat n.toNat).toArray⟩ ∧ ns.length = ys.length := by
    have : ∀ (ys : List Tr) (news : List Value), Tr.row e.ro 1 ys news → ys.all isByte = true → ∃ ns : List Int, news = ns.map (Value.int .u8) ∧ ys.map byteOfT = ns.map (fun n => UInt8.ofNat n.toNat) ∧ ns.length = ys.length := by
      intro ys
      induction ys with
      | nil => intro news h _; simp only [Tr.row] at h; exact ⟨[], by simp [h], rfl, rfl⟩
      | cons y r ih =>
        intro news h hb
        simp only [Tr.row] at h
        simp only [List.all_cons, Bool.and_eq_true] at hb
        obtain ⟨p, q, rfl, _, h5, h6⟩ := h
        obtain ⟨ns, rfl, h7, h8⟩ := ih q h6 hb.2
        unfold isByte at hb
        split at hb
        · rename_i n
          simp only [Tr.rel] at h5
          subst h5
          exact ⟨n :: ns, rfl, by simp [byteOfT, h7], by simp [h8]⟩
        · exact absurd hb.1 (by simp)
    obtain ⟨ns, h4, h5, h6⟩ := this ys news hrow hb
    exact ⟨ns, h4, by rw [strOf, h5], h6⟩
  obtain ⟨ns, rfl, hstr, hnl⟩ := hns
  rcases hform with ⟨base, cap, hc, hn⟩ | ⟨str, hc, _, _, _⟩
  · have : (execOp a.eval o).run X.P w = .ok (.value (.string (strOf ys))) w := by
      simp only [execOp, ho]
      refine run_v ?_
      rw [hc]
      have hconv : ∀ v, (convert s d v).run X.P w = (match v with | .slice _ _ _ => Conv.bytesToString v | _ => convert s d v).run X.P w := by
        intro v
        cases v <;> first | rfl | skip
        simp only [convert, Sem.run_bind, run_under h1, run_under h2, Result.andThen, run_under h3]
      rw [hconv]
      simp only
      cases base with
      | none =>
        have : ns = [] := by
          rcases hn with h | ⟨_, h, _⟩
          · simpa using h
          · cases h
        subst this
        rw [hstr]; simp [Conv.bytesToString]; rfl
      | some ad =>
        rw [run_bytesToString (P := X.P) w ad ys.length cap ns (by
          rcases hn with h | ⟨ad', h, hsp, cs, t, fz, hk, hsub⟩
          · have : ns = [] := by simpa using h
            subst this
            have : ys.length = 0 := by simpa using hnl.symm
            rw [this]; rfl
          · obtain rfl := Option.some.inj h
            have := run_loadCells_sub (P := X.P) hk hsub
            rw [List.length_map, hnl] at this
            rw [addr_eta hsp]; exact this), strOf_eq, hstr]
    rw [this]
    exact Out.same hr (mk_str _ _) hs
  · rw [hc] at hxv
    obtain ⟨s', h⟩ := elems_str hxv hs0
    exact absurd h (hnostr s')
end Stk
end

section
/- The framework, part 11: other names; the focus of a call; what is lent. -/
namespace Stk
open Go
variable {X : Cx} {Q : Ex → Fr → Hp → Prop} {e : Env} {H : Hp} {w : World}

structure Ren (R : Nat → Nat → Prop) (e e' : Env) : Prop where
  β : ∀ b b', R b b' → e.β b ≠ .no → e'.β b' = e.β b
  ro : MemLe e.ro e'.ro
def Holds (e e' : Env) : Prop := ∀ k mem, e.holds k mem → e'.holds k mem

def RenV (R : Nat → Nat → Prop) (v v' : AV) : Prop := ∀ e e', Ren R e e' → (Holds e e' ∨ v.free = true) → (∀ cs, AV.rel e v cs → AV.rel e' v' cs) ∧ (∀ c, AV.val e v c → AV.val e' v' c)
def RenVs (R : Nat → Nat → Prop) (xs ys : List AV) : Prop := ∀ e e', Ren R e e' → (Holds e e' ∨ AV.frees xs = true) → (∀ cs, AV.rels e xs cs → AV.rels e' ys cs) ∧ (∀ cs, AV.vals e xs cs → AV.vals e' ys cs)
def FnOK (X : Cx) (Q : Ex → Fr → Hp → Prop) (f : Nat → T → (Nat → T) → T) (R : Nat → Nat → Prop) : Prop :=
  ∀ b no k, sat X Q (f b no k) → sat X Q no ∨ ∃ b', R b b' ∧ sat X Q (k b')

theorem RenV.undef {R : Nat → Nat → Prop} (v : AV) (hv : v.sz = 1) (hl : ∀ e cs, AV.rel e v cs → AV.leaf e v cs) : RenV R v .undef := by
  intro e e' _ _
  refine ⟨fun cs h => ?_, fun c _ => by simp [AV.val]⟩
  obtain ⟨h1, h2⟩ := AV.leaf_length (hl e cs h)
  rw [hv] at h1
  match cs, h1 with
  | [c], _ => simp only [AV.rel, AV.leaf]; exact ⟨c, rfl, h2 c (by simp)⟩
theorem RenV.leaf {R : Nat → Nat → Prop} {v v' : AV} (hv : ∀ e cs, AV.rel e v cs = AV.leaf e v cs) (hv' : ∀ e cs, AV.rel e v' cs = AV.leaf e v' cs) (hc : ∀ e c, AV.val e v c = AV.leaf e v [c]) (hc' : ∀ e c, AV.val e v' c = AV.leaf e v' [c])
    (h : ∀ e e' cs, Ren R e e' → (Holds e e' ∨ v.free = true) → AV.leaf e v cs → AV.leaf e' v' cs) : RenV R v v' := by
  intro e e' hr hh
  exact ⟨fun cs hx => by rw [hv] at hx; rw [hv']; exact h e e' cs hr hh hx, fun c hx => by rw [hc] at hx; rw [hc']; exact h e e' [c] hr hh hx⟩

mutual
theorem renK_sound {f : Nat → T → (Nat → T) → T} {R : Nat → Nat → Prop} (hf : FnOK X Q f R) : ∀ {v : AV} {k : AV → T}, sat X Q (renK f v k) → ∃ v', RenV R v v' ∧ sat X Q (k v')
  | .t x, k, h => ⟨.t x, fun e e' hr _ => ⟨fun cs hx => by simp only [AV.rel, AV.leaf] at hx ⊢; exact Tr.rel_mono hr.ro hx, fun c hx => by
      simp only [AV.val] at hx ⊢
      cases hxa : x.isAgg with
      | true => rw [hxa] at hx; obtain ⟨cs, h1, h2⟩ := hx; exact ⟨cs, h1, Tr.rel_mono hr.ro h2⟩
      | false => rw [hxa] at hx; exact Tr.rel_mono hr.ro hx⟩, by simpa only [renK] using h⟩
  | .undef, k, h => ⟨.undef, fun e e' _ _ => ⟨fun cs hx => by simpa only [AV.rel, AV.leaf] using hx, fun c _ => by simp [AV.val]⟩, by simpa only [renK] using h⟩
  | .ptr b i o p ix, k, h => by
    simp only [renK] at h
    rcases hf _ _ _ h with h | ⟨b', hb, h⟩
    · exact ⟨_, RenV.undef _ rfl (fun e cs hx => by simpa only [AV.rel] using hx), h⟩
    · refine ⟨_, RenV.leaf (fun _ _ => by simp only [AV.rel]) (fun _ _ => by simp only [AV.rel]) (fun _ _ => by simp only [AV.val]) (fun _ _ => by simp only [AV.val]) ?_, h⟩
      rintro e e' cs hr - ⟨blk, esz, rc, n, h1, h2⟩
      exact ⟨blk, esz, rc, n, by rw [hr.β b b' hb (by simp [h1]), h1], h2⟩
  | .sl b o p off len cap, k, h => by
    simp only [renK] at h
    rcases hf _ _ _ h with h | ⟨b', hb, h⟩
    · exact ⟨_, RenV.undef _ rfl (fun e cs hx => by simpa only [AV.rel] using hx), h⟩
    · refine ⟨_, RenV.leaf (fun _ _ => by simp only [AV.rel]) (fun _ _ => by simp only [AV.rel]) (fun _ _ => by simp only [AV.val]) (fun _ _ => by simp only [AV.val]) ?_, h⟩
      intro e e' cs hr _ hx
      exact slRel_to (hr.β b b' hb) hx
  | .mp b, k, h => by
    simp only [renK] at h
    rcases hf _ _ _ h with h | ⟨b', hb, h⟩
    · exact ⟨_, RenV.undef _ rfl (fun e cs hx => by simpa only [AV.rel] using hx), h⟩
    · refine ⟨_, RenV.leaf (fun _ _ => by simp only [AV.rel]) (fun _ _ => by simp only [AV.rel]) (fun _ _ => by simp only [AV.val]) (fun _ _ => by simp only [AV.val]) ?_, h⟩
      rintro e e' cs hr - ⟨blk, esz, rc, n, h1, h2⟩
      exact ⟨blk, esz, rc, n, by rw [hr.β b b' hb (by simp [h1]), h1], h2⟩
  | .bz esz xs, k, h => ⟨.bz esz xs, RenV.leaf (fun _ _ => by simp only [AV.rel]) (fun _ _ => by simp only [AV.rel]) (fun _ _ => by simp only [AV.val]) (fun _ _ => by simp only [AV.val]) (by
      rintro e e' cs hr hh ⟨base, cap, h1, h2, h3⟩
      rcases hh with hh | hh
      · refine ⟨base, cap, h1, h2, h3.imp _root_.id ?_⟩
        rintro ⟨a, mem, mid, ha, hs, hm, hsub, hrr⟩
        exact ⟨a, mem, mid, ha, hs, hh _ _ hm, hsub, Tr.row_mono hr.ro hrr⟩
      · simp [AV.free] at hh), by simpa only [renK] using h⟩
  | .vp x, k, h => ⟨.vp x, RenV.leaf (fun _ _ => by simp only [AV.rel]) (fun _ _ => by simp only [AV.rel]) (fun _ _ => by simp only [AV.val]) (fun _ _ => by simp only [AV.val]) (by
      rintro e e' cs hr hh ⟨a, mem, mid, h1, h2, hm, hsub, hrr⟩
      rcases hh with hh | hh
      · exact ⟨a, mem, mid, h1, h2, hh _ _ hm, hsub, Tr.rel_mono hr.ro hrr⟩
      · simp [AV.free] at hh), by simpa only [renK] using h⟩
  | .agg xs, k, h => by
    simp only [renK] at h
    obtain ⟨ys, hy, h⟩ := rensK_sound hf h
    refine ⟨_, fun e e' hr hh => ?_, h⟩
    have := hy e e' hr (hh.imp _root_.id (by simp [AV.free]))
    exact ⟨fun cs hx => by simp only [AV.rel] at hx ⊢; exact this.1 _ hx, fun c hx => by simp only [AV.val] at hx ⊢; obtain ⟨cs, h1, h2⟩ := hx; exact ⟨cs, h1, this.1 _ h2⟩⟩
  | .tup xs, k, h => by
    simp only [renK] at h
    obtain ⟨ys, hy, h⟩ := rensK_sound hf h
    refine ⟨_, fun e e' hr hh => ?_, h⟩
    have := hy e e' hr (hh.imp _root_.id (by simp [AV.free]))
    exact ⟨fun cs hx => by simp [AV.rel] at hx, fun c hx => by simp only [AV.val] at hx ⊢; obtain ⟨cs, h1, h2⟩ := hx; exact ⟨cs, h1, this.2 _ h2⟩⟩
  | .fn g xs ys, k, h => by
    simp only [renK] at h
    obtain ⟨xs', hx', h⟩ := rensK_sound hf h
    obtain ⟨ys', hy', h⟩ := rensK_sound hf h
    refine ⟨_, fun e e' hr hh => ?_, h⟩
    have h1 := hx' e e' hr (hh.imp _root_.id (by simp [AV.free]; exact fun a _ => a))
    have h2 := hy' e e' hr (hh.imp _root_.id (by simp [AV.free]))
    exact ⟨fun cs hx => by simp only [AV.rel] at hx ⊢; obtain ⟨vs, ws, a, b, c⟩ := hx; exact ⟨vs, ws, a, h1.2 _ b, h2.2 _ c⟩, fun c hx => by simp only [AV.val] at hx ⊢; obtain ⟨vs, ws, a, b, c⟩ := hx; exact ⟨vs, ws, a, h1.2 _ b, h2.2 _ c⟩⟩
theorem rensK_sound {f : Nat → T → (Nat → T) → T} {R : Nat → Nat → Prop} (hf : FnOK X Q f R) : ∀ {xs : List AV} {k : List AV → T}, sat X Q (rensK f xs k) → ∃ ys, RenVs R xs ys ∧ sat X Q (k ys)
  | [], k, h => ⟨[], fun e e' _ _ => ⟨fun cs hx => hx, fun cs hx => hx⟩, by simpa only [rensK] using h⟩
  | x :: xs, k, h => by
    simp only [rensK] at h
    obtain ⟨y, hy, h⟩ := renK_sound hf h
    obtain ⟨ys, hys, h⟩ := rensK_sound hf h
    refine ⟨_, fun e e' hr hh => ?_, h⟩
    have h1 := hy e e' hr (hh.imp _root_.id (by simp [AV.frees]; exact fun a _ => a))
    have h2 := hys e e' hr (hh.imp _root_.id (by simp [AV.frees]))
    exact ⟨fun cs hx => by simp only [AV.rels] at hx ⊢; obtain ⟨a, b, p, q, r⟩ := hx; exact ⟨a, b, p, h1.1 _ q, h2.1 _ r⟩, fun cs hx => by simp only [AV.vals] at hx ⊢; obtain ⟨a, b, p, q, r⟩ := hx; exact ⟨a, b, p, h1.2 _ q, h2.2 _ r⟩⟩
end

/-! ### Objects -/
def AO.free : AO → Bool
  | .var v => v.free
  | .dr _ _ (some (_, v)) => v.free
  | _ => true
def RenO (R : Nat → Nat → Prop) (o o' : AO) : Prop :=
  match o with
  | .var v => ∃ v', o' = .var v' ∧ RenV R v v'
  | .mapI es i => o' = .map es ∨ ∃ i', o' = .mapI es i' ∧ R i i'
  | .iter m es left last => ∃ m', o' = .iter m' es left last ∧ R m m'
  | .dr esz ms (some (i, v)) => ∃ v', o' = .dr esz ms (some (i, v')) ∧ RenV R v v'
  | o => o' = o
theorem renOK_sound {f : Nat → T → (Nat → T) → T} {R : Nat → Nat → Prop} (hf : FnOK X Q f R) {o : AO} {k : AO → T} (h : sat X Q (renOK f o k)) : ∃ o', RenO R o o' ∧ sat X Q (k o') := by
  cases o with
  | var v =>
    simp only [renOK] at h
    obtain ⟨v', hv, h⟩ := renK_sound hf h
    exact ⟨_, ⟨v', rfl, hv⟩, h⟩
  | row es xs => exact ⟨_, rfl, h⟩
  | map es => exact ⟨_, rfl, h⟩
  | gone => exact ⟨_, rfl, h⟩
  | mapI es i =>
    simp only [renOK] at h
    rcases hf _ _ _ h with h | ⟨i', hi, h⟩
    · exact ⟨_, .inl rfl, h⟩
    · exact ⟨_, .inr ⟨i', rfl, hi⟩, h⟩
  | iter m es left last =>
    simp only [renOK] at h
    rcases hf _ _ _ h with h | ⟨m', hm, h⟩
    · exact h.elim
    · exact ⟨_, ⟨m', rfl, hm⟩, h⟩
  | dr esz ms h' =>
    cases h' with
    | none => exact ⟨_, rfl, h⟩
    | some p =>
      obtain ⟨i, v⟩ := p
      simp only [renOK] at h
      obtain ⟨v', hv, h⟩ := renK_sound hf h
      exact ⟨_, ⟨v', rfl, hv⟩, h⟩
theorem RenO.gone {R : Nat → Nat → Prop} {o o' : AO} (h : RenO R o o') : o' = .gone ↔ o = .gone := by
  cases o with
  | var v => obtain ⟨v', rfl, _⟩ := h; simp
  | row es xs => obtain rfl := h; simp
  | map es => obtain rfl := h; simp
  | gone => obtain rfl := h; simp
  | mapI es i => rcases h with rfl | ⟨i', rfl, _⟩ <;> simp
  | iter m es left last => obtain ⟨m', rfl, _⟩ := h; simp
  | dr esz ms h' =>
    cases h' with
    | none => obtain rfl := h; simp
    | some p => obtain ⟨v', rfl, _⟩ := h; simp
theorem RenO.row {R : Nat → Nat → Prop} {o o' : AO} (h : RenO R o o') : isRow o' = isRow o := by
  cases o with
  | var v => obtain ⟨v', rfl, _⟩ := h; rfl
  | row es xs => obtain rfl := h; rfl
  | map es => obtain rfl := h; rfl
  | gone => obtain rfl := h; rfl
  | mapI es i => rcases h with rfl | ⟨i', rfl, _⟩ <;> rfl
  | iter m es left last => obtain ⟨m', rfl, _⟩ := h; rfl
  | dr esz ms h' =>
    cases h' with
    | none => obtain rfl := h; rfl
    | some p => obtain ⟨v', rfl, _⟩ := h; rfl
theorem RenO.nil {R : Nat → Nat → Prop} {o o' : AO} (h : RenO R o o') (hn : o.nil) : o'.nil := by
  obtain ⟨esz, rfl | rfl⟩ := hn
  · obtain rfl := h; exact ⟨esz, .inl rfl⟩
  · obtain rfl := h; exact ⟨esz, .inr rfl⟩
theorem RenO.rel {R : Nat → Nat → Prop} {o o' : AO} (h : RenO R o o') {e e' : Env} (hr : Ren R e e') (hh : Holds e e' ∨ o.free = true) {esz cap : Nat} {n : Option Nat} {ob : Obj} (ho : o.rel e esz cap n ob) : o'.rel e' esz cap n ob := by
  cases o with
  | var v =>
    obtain ⟨v', rfl, hv⟩ := h
    obtain ⟨h0, h00, cs, t, fz, h1, h2, h3⟩ := ho
    exact ⟨h0, h00, cs, t, fz, h1, (hv e e' hr hh).1 _ h2, h3⟩
  | row es xs =>
    simp only [RenO] at h; subst h
    obtain ⟨h1, h0, cs, t, fz, h2, h3, h4, h5, h6, mid, post, h7, h8⟩ := ho
    exact ⟨h1, h0, cs, t, fz, h2, h3, h4, h5, h6, mid, post, h7, Tr.row_mono hr.ro h8⟩
  | map es =>
    simp only [RenO] at h; subst h
    obtain ⟨h0, ents, cl, h1, h2, h3⟩ := ho
    exact ⟨h0, ents, cl, h1, mapRel_mono hr.ro h2, h3⟩
  | gone => simp only [RenO] at h; subst h; trivial
  | mapI es i =>
    obtain ⟨h0, ents, cl, h1, h2, h3, ib, n', h4⟩ := ho
    rcases h with rfl | ⟨i', rfl, hi⟩
    · exact ⟨h0, ents, cl, h1, mapRel_mono hr.ro h2, h3⟩
    · exact ⟨h0, ents, cl, h1, mapRel_mono hr.ro h2, h3, ib, n', by rw [hr.β i i' hi (by simp [h4]), h4]⟩
  | iter m es left last =>
    obtain ⟨m', rfl, hm⟩ := h
    obtain ⟨h0, bm, s, c, n', seen, bs, h1, h2⟩ := ho
    exact ⟨h0, bm, s, c, n', seen, bs, by rw [hr.β m m' hm (by simp [h1]), h1], h2⟩
  | dr esz ms h' =>
    cases h' with
    | none => obtain rfl := h; exact ho
    | some p => obtain ⟨v', rfl, _⟩ := h; exact ho
theorem RenO.deep {R : Nat → Nat → Prop} {o o' : AO} (h : RenO R o o') {e e' : Env} (hr : Ren R e e') (hh : Holds e e' ∨ o.free = true) {B : Bind} {D : Nat → Prop} {w : World} (ho : DRel e B D o w) : DRel e' B D o' w := by
  cases o with
  | dr esz ms h' =>
    rcases ho with ⟨h1, h2, h3⟩ | ⟨blk, s, c, n, h1, h2, h3, cs, t, fz, h4, ε, h5⟩
    · cases h' with
      | none => obtain rfl := h; exact .inl ⟨h1, h2, h3⟩
      | some p => obtain ⟨v', rfl, _⟩ := h; exact .inl ⟨h1, h2, h3⟩
    · cases h' with
      | none =>
        obtain rfl := h
        exact .inr ⟨blk, s, c, n, h1, h2, h3, cs, t, fz, h4, ε, h5.map hr.ro (fun _ h => h) (fun i v' hv => by simp [outAt] at hv)⟩
      | some p =>
        obtain ⟨i, v⟩ := p
        obtain ⟨v', rfl, hv⟩ := h
        refine .inr ⟨blk, s, c, n, h1, h2, h3, cs, t, fz, h4, ε, h5.map hr.ro (fun j hj => ?_) (fun j u hu => ?_)⟩
        · simp only [outAt] at hj ⊢; split at hj <;> simp_all
        · simp only [outAt] at hu ⊢
          split at hu
          · rename_i hj
            obtain rfl := Option.some.inj hu
            exact ⟨v, by rw [if_pos hj], fun mid hm => (hv e e' hr (hh.imp id (by simp [AO.free]))).1 _ hm⟩
          · cases hu
  | var v => obtain ⟨v', rfl, _⟩ := h; exact ho
  | row es xs => obtain rfl := h; exact ho
  | map es => obtain rfl := h; exact ho
  | gone => obtain rfl := h; exact ho
  | mapI es i => rcases h with rfl | ⟨i', rfl, _⟩ <;> exact ho
  | iter m es left last => obtain ⟨m', rfl, _⟩ := h; exact ho

/-! ### What is reached -/
theorem nameIn_iff (b : Nat) : ∀ l : List Nat, nameIn b l = true ↔ b ∈ l
  | [] => by simp [nameIn]
  | c :: r => by
    simp only [nameIn, List.mem_cons]
    cases hb : Nat.beq b c with
    | true => have := beq_eq hb; simp [this]
    | false =>
      have : b ≠ c := by rintro rfl; have := Nat.beq_refl b; simp_all
      simp [this, nameIn_iff b r]

structure Good (H : Hp) (ρ : List Nat) : Prop where
  nodup : ρ.Nodup
  live : ∀ b ∈ ρ, live H b

theorem reachK_sound {k : List Nat → T} : ∀ {n : Nat} {ws acc : List Nat}, Good H acc → sat X Q (reachK H k n ws acc) → ∃ ρ, Good H ρ ∧ sat X Q (k ρ)
  | 0, ws, acc, hg, h => ⟨acc, hg, by simpa only [reachK] using h⟩
  | n + 1, [], acc, hg, h => ⟨acc, hg, by simpa only [reachK] using h⟩
  | n + 1, b :: ws, acc, hg, h => by
    simp only [reachK] at h
    split at h
    · exact reachK_sound hg h
    · rename_i hb
      obtain ⟨o, ho, h⟩ := sat_nthK h
      split at h
      · exact reachK_sound hg h
      · rename_i hne
        rw [snocK_eq] at h
        refine reachK_sound ⟨?_, ?_⟩ h
        · rw [List.nodup_append]
          refine ⟨hg.nodup, by simp, fun x hx y hy => ?_⟩
          simp only [List.mem_singleton] at hy
          subst hy
          rintro rfl
          rw [(nameIn_iff x acc).2 hx] at hb; cases hb
        · intro x hx
          rw [List.mem_append, List.mem_singleton] at hx
          rcases hx with hx | rfl
          · exact hg.live x hx
          · exact ⟨o, ho, hne⟩

theorem posK_sound {b : Nat} {no : T} {k : Nat → T} : ∀ {n : Nat} {l : List Nat}, sat X Q (posK b no k n l) → sat X Q no ∨ ∃ i, l[i]? = some b ∧ sat X Q (k (n + i))
  | n, [], h => .inl (by simpa only [posK] using h)
  | n, c :: r, h => by
    simp only [posK] at h
    split at h
    · rename_i hb
      rw [litK_eq] at h
      exact .inr ⟨0, by rw [beq_eq hb]; rfl, h⟩
    · rcases posK_sound h with h | ⟨i, hi, h⟩
      · exact .inl h
      · exact .inr ⟨i + 1, hi, by rw [show n + (i + 1) = n + 1 + i by omega]; exact h⟩
def inR (ρ : List Nat) (b i : Nat) : Prop := ρ[i]? = some b
theorem inward_ok (ρ : List Nat) : FnOK X Q (inward ρ) (inR ρ) := by
  intro b no k h
  rcases posK_sound h with h | ⟨i, hi, h⟩
  · exact .inl h
  · exact .inr ⟨i, hi, by simpa using h⟩
def outR (ρ : List Nat) (n : Nat) (j b : Nat) : Prop := ρ[j]? = some b ∨ (ρ.length ≤ j ∧ b = n + (j - ρ.length))
theorem outward_ok (ρ : List Nat) (n : Nat) : FnOK X Q (outward ρ n) (outR ρ n) := by
  intro b no k h
  refine .inr ?_
  have : ∀ (l : List Nat) (j : Nat), sat X Q (outward.go n k l j) → ∃ b', outR l n j b' ∧ sat X Q (k b') := by
    intro l
    induction l with
    | nil => intro j h; simp only [outward.go, litK_eq] at h; exact ⟨n + j, .inr ⟨by simp, by simp⟩, h⟩
    | cons c r ih =>
      intro j h
      cases j with
      | zero => simp only [outward.go] at h; exact ⟨c, .inl rfl, h⟩
      | succ j =>
        simp only [outward.go] at h
        obtain ⟨b', hb, h⟩ := ih j h
        refine ⟨b', ?_, h⟩
        rcases hb with hb | ⟨h1, h2⟩
        · exact .inl (by simpa using hb)
        · exact .inr ⟨by simp; omega, by simp; omega⟩
  exact this ρ b h

structure Foc (H : Hp) (R : Nat → Nat → Prop) (l : List Nat) (Hs : Hp) : Prop where
  len : Hs.length = l.length
  get : ∀ (i b : Nat), l[i]? = some b → ∃ o o', H[b]? = some o ∧ RenO R o o' ∧ Hs[i]? = some o'
theorem focK_sound {ρ : List Nat} : ∀ {l : List Nat} {k : Hp → T}, sat X Q (focK H ρ l k) → ∃ Hs, Foc H (inR ρ) l Hs ∧ sat X Q (k Hs)
  | [], k, h => ⟨[], ⟨rfl, fun i b h => by simp at h⟩, by simpa only [focK] using h⟩
  | b :: r, k, h => by
    simp only [focK] at h
    obtain ⟨o, ho, h⟩ := sat_nthK h
    obtain ⟨o', ho', h⟩ := renOK_sound (inward_ok ρ) h
    obtain ⟨os, hos, h⟩ := focK_sound h
    refine ⟨_, ⟨by simp [hos.len], fun i c hc => ?_⟩, h⟩
    cases i with
    | zero => simp at hc; subst hc; exact ⟨o, o', ho, ho', rfl⟩
    | succ i => simp at hc; obtain ⟨a, a', h1, h2, h3⟩ := hos.get i c hc; exact ⟨a, a', h1, h2, by simpa using h3⟩

theorem backK_sound {f : Nat → T → (Nat → T) → T} {R : Nat → Nat → Prop} {ρ : List Nat} {n : Nat} (hf : f = outward ρ n) (hR : FnOK X Q f R) : ∀ {l : List Nat} {os H : Hp} {k : Hp → T}, l.Nodup → (∀ b ∈ l, b < H.length) → l.length ≤ os.length → sat X Q (backK ρ n l os H k) →
    ∃ H', sat X Q (k H') ∧ H'.length = H.length + (os.length - l.length) ∧ (∀ (i b : Nat), l[i]? = some b → ∃ o o', os[i]? = some o ∧ RenO R o o' ∧ H'[b]? = some o') ∧
      (∀ (j : Nat) o, os[l.length + j]? = some o → ∃ o', RenO R o o' ∧ H'[H.length + j]? = some o') ∧ (∀ b, b < H.length → b ∉ l → H'[b]? = H[b]?)
  | [], [], H, k, _, _, _, h => ⟨H, by simpa only [backK] using h, by simp, by simp, by simp, fun _ _ _ => rfl⟩
  | b :: r, [], H, k, _, _, hl, h => by simp at hl
  | b :: r, o :: os, H, k, hn, hb, hl, h => by
    simp only [backK, ← hf] at h
    obtain ⟨o', ho', h⟩ := renOK_sound hR h
    obtain ⟨hlt, h⟩ := sat_setK h
    rw [List.nodup_cons] at hn
    obtain ⟨H', h, h1, h2, h3, h4⟩ := backK_sound hf hR hn.2 (fun c hc => by simpa using hb c (by simp [hc])) (by simpa using hl) h
    refine ⟨H', h, by simpa using h1, ?_, ?_, ?_⟩
    · intro i c hc
      cases i with
      | zero =>
        simp at hc; subst hc
        refine ⟨o, o', rfl, ho', ?_⟩
        rw [h4 b (by simpa using hlt) hn.1]; simp [hlt]
      | succ i => simp at hc; obtain ⟨a, a', p, q, s⟩ := h2 i c hc; exact ⟨a, a', by simpa using p, q, s⟩
    · intro j x hx
      rw [List.length_cons, show r.length + 1 + j = r.length + j + 1 by omega] at hx
      obtain ⟨x', p, q⟩ := h3 j x (by simpa using hx)
      exact ⟨x', p, by simpa using q⟩
    · intro c hc hcl
      simp only [List.mem_cons, not_or] at hcl
      rw [h4 c (by simpa using hc) hcl.2, List.getElem?_set, if_neg (fun e => hcl.1 e.symm)]
  | [], o :: os, H, k, hn, hb, hl, h => by
    simp only [backK, ← hf] at h
    obtain ⟨o', ho', h⟩ := renOK_sound hR h
    rw [snocK_eq] at h
    obtain ⟨H', h, h1, h2, h3, h4⟩ := backK_sound hf hR (l := []) (by simp) (by simp) (by simp) h
    refine ⟨H', h, by simp at h1 ⊢; omega, by simp, ?_, ?_⟩
    · intro j x hx
      cases j with
      | zero =>
        simp at hx; subst hx
        refine ⟨o', ho', ?_⟩
        rw [h4 _ (by simp) (by simp)]; simp
      | succ j =>
        obtain ⟨x', p, q⟩ := h3 j x (by simpa using hx)
        exact ⟨x', p, by rw [List.length_append, List.length_singleton] at q; rw [show H.length + (j + 1) = H.length + 1 + j by omega]; exact q⟩
    · intro b hb' _
      rw [h4 b (by simp; omega) (by simp), List.getElem?_append_left hb']
end Stk
end
