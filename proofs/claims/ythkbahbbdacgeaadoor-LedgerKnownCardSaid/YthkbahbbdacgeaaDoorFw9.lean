/- The framework, part 9: what is appended, copied, made. -/
import Derived.Test.YthkbahbbdacgeaaDoorFw8
import Derived.Deep.AppendSrc
import Derived.Deep.Upon
import Derived.Laws.IdiomStrings
import Derived.Laws.BytesString
import Derived.Laws.MakeOwn
namespace Stk
open Go
variable {X : Cx} {Q : Ex → Fr → Hp → Prop} {e : Env} {H : Hp} {w : World}

theorem op_sliceA {t el : TypeId} {n : Nat} {x : Opd} {x' : Operand} {lo hi mx : Option Opd} {lo' hi' mx' : Option Operand} (hx : chkOpd X.G x x' = true) (h1 : chkOO X.G lo lo' = true) (h2 : chkOO X.G hi hi' = true) (h3 : chkOO X.G mx mx' = true)
    (ht : X.P.underlying t = some (.array n el) ∨ ∃ q, X.P.underlying t = some (.pointer q) ∧ X.P.underlying q = some (.array n el)) (hsz : (X.P.info? el).map (·.size) = some 1) :
    OpS0 X (.slice t x' lo' hi' mx') (.sliceA n x lo hi mx) := by
  intro o ho e H w fr a Q k hr hf hs
  have hxv := chkOpd_val hr hf hx
  simp only [opT, evK_eq] at hs
  obtain ⟨l, hl, hs⟩ := sat_ointK hr hf h1 hs
  obtain ⟨h, hh, hs⟩ := sat_ointK hr hf h2 hs
  obtain ⟨m, hm, hs⟩ := sat_ointK hr hf h3 hs
  have run {ad : Addr} {l' h' m' : Nat} (hc : a.eval x' = .pointer (some ad)) (hb : ∀ P b, (Instr.sliceBounds b n n (lo'.map a.eval) (hi'.map a.eval) (mx'.map a.eval)).run P w = .ok (l', h', m') w) :
      (execOp a.eval o).run X.P w = .ok (.value (.slice (some (if m' = l' then ad else ad.add (l' * 1))) (h' - l') (m' - l'))) w := by
    simp only [execOp, ho]
    refine run_v ?_
    rw [hc]
    rcases ht with ht | ⟨q, ht, hq⟩
    · simp only [Instr.sliceAt, Sem.run_bind, run_under ht, Result.andThen, Instr.sureAddr, Sem.run_pure, hb X.P false, run_sizeOf hsz]
    · simp only [Instr.sliceAt, Sem.run_bind, run_under ht, Result.andThen, Instr.slice, asAddr, Sem.run_pure, run_under hq, hb X.P false, run_sizeOf hsz]
  have nomax : m = none → mx'.map a.eval = none := by
    rintro rfl
    cases hmm : mx'.map a.eval with
    | none => rfl
    | some v => rw [hmm] at hm; exact hm.elim
  unfold sliceAK at hs
  split at hs
  · rename_i b o' p hxa
    rw [hxa] at hxv
    simp only [AV.val, AV.leaf] at hxv
    obtain ⟨blk, esz, rc, nn, hβ, hc⟩ := hxv
    have hc : a.eval x' = .pointer (some ⟨blk, o', none⟩) := by simpa using hc
    obtain ⟨ob, hob, hs⟩ := sat_nthK hs
    cases ob with
    | row _ _ => exact hs.elim
    | map _ => exact hs.elim
    | gone => exact hs.elim
    | var v =>
      cases m with
      | some _ => exact hs.elim
      | none =>
        obtain ⟨oo, hoo, hrel⟩ := hr.obj b _ hob (by simp) _ _ _ _ hβ
        obtain ⟨hnn, he1, _⟩ := hrel
        obtain ⟨l', h', hle, hn, hx1, hs, hrun⟩ := cut_sound (w := w) hl hh (Nat.le_refl n) hs
        have hx1 : h' ≤ n := by
          cases h with
          | none => rw [hn rfl]; exact Nat.le_refl _
          | some v => exact (hx1 _ rfl).1
        rw [run hc (by rw [nomax rfl]; exact hrun)]
        refine Out.same hr ?_ hs
        simp only [AV.val, AV.leaf]
        refine .inr ⟨blk, esz, rc, nn, _, _, hβ, rfl, by omega, (fun n' hn' => absurd hn' (by rw [hnn]; simp)), rfl, ?_⟩
        by_cases hml : n = l'
        · left; omega
        · right; rw [if_neg hml, add_off, he1]
  · rename_i m' xs hxa
    rw [hxa] at hxv
    simp only [AV.val, AV.leaf, Tr.rel] at hxv
    obtain ⟨ad, mem, mid, hc, hsp, hmm, hsub, hlen, hones⟩ := hxv
    have hc : a.eval x' = .pointer (some ad) := by simpa using hc
    cases m with
    | some _ => exact hs.elim
    | none =>
      have hmn : m' = n ∧ sat X Q (cutK n n l h fun l h => k (.bz 1 ((xs.take h).drop l)) H) := by
        cases hb : Nat.beq m' n with
        | true => rw [hb] at hs; exact ⟨beq_eq hb, hs⟩
        | false => rw [hb] at hs; exact hs.elim
      obtain ⟨hmn, hz⟩ := hmn
      subst hmn
      obtain ⟨l', h', hle, hn, hx1, hz, hrun⟩ := cut_sound (w := w) hl hh (Nat.le_refl m') hz
      have hx1 : h' ≤ m' := by
        cases h with
        | none => rw [hn rfl]; exact Nat.le_refl _
        | some v => exact (hx1 _ rfl).1
      rw [run hc (by rw [nomax rfl]; exact hrun)]
      refine Out.same hr ?_ hz
      simp only [AV.val, AV.leaf]
      have hl2 : ((xs.take h').drop l').length = h' - l' := by simp; omega
      refine ⟨_, _, by rw [hl2], by rw [hl2]; omega, ?_⟩
      rcases ro_cut (base := some ad) (holds := e.holds) (.inr ⟨ad, mem, mid, rfl, hsp, hmm, hsub, Tr.ones_row hones⟩) hle (by omega) with hq | ⟨ad2, mem2, mid2, h4, h5⟩
      · exact .inl hq
      · by_cases hml : m' = l'
        · left; rw [← List.length_eq_zero_iff, hl2]; omega
        · right
          rw [if_neg hml]
          exact ⟨ad2, mem2, mid2, by simpa using h4, h5⟩
  · exact hs.elim

theorem mnmx_sound {mx : Bool} {j : IntKind} : ∀ {vs : List AV} {x : Int} {cs : List Value} {k : AV → T}, AV.vals e vs cs → sat X Q (mnmxK mx j x vs k) →
    ∃ y, sat X Q (k (.t (.int j y))) ∧ ∀ P, (cs.foldlM (if mx then Builtin.max2 else Builtin.min2) (.int j x) : Sem Value).run P w = .ok (.int j y) w
  | [], x, cs, k, hvs, h => by
    simp only [AV.vals] at hvs; subst hvs
    exact ⟨x, h, fun P => by simp⟩
  | u :: vs, x, cs, k, hvs, h => by
    simp only [AV.vals] at hvs
    obtain ⟨d, b, rfl, hu, hb⟩ := hvs
    unfold mnmxK at h
    split at h
    · rename_i j' y
      have hd := val_int hu
      subst hd
      cases hk : kindEq j j' with
      | false => rw [hk] at h; exact h.elim
      | true =>
        rw [hk] at h
        cases mx with
        | true =>
          obtain ⟨z, hz, hrun⟩ := mnmx_sound (x := max x y) hb h
          refine ⟨z, hz, fun P => ?_⟩
          simp only [List.foldlM_cons, Sem.run_bind, if_true, Builtin.max2, Sem.run_pure, Result.andThen]
          have e1 : (if y > x then y else x) = max x y := by rw [Int.max_def]; split <;> split <;> omega
          rw [e1]; exact hrun P
        | false =>
          obtain ⟨z, hz, hrun⟩ := mnmx_sound (x := min x y) hb h
          refine ⟨z, hz, fun P => ?_⟩
          simp only [List.foldlM_cons, Sem.run_bind, Bool.false_eq_true, if_false, Builtin.min2, Sem.run_pure, Result.andThen]
          have e1 : (if y < x then y else x) = min x y := by rw [Int.min_def]; split <;> split <;> omega
          rw [e1]; exact hrun P
    · exact h.elim

theorem op_mnmx {mx : Bool} {xs : List Opd} {xs' : Array Operand} {ats : Array TypeId} (hx : chkOpds X.G xs xs'.toList = true) : OpS0 X (.call { callee := .builtin (if mx then .max else .min), args := xs', argTypes := ats }) (.mnmx mx xs) := by
  intro o ho e H w fr a Q k hr hf hs
  have hv := chkOpds_vals hr hf hx
  simp only [opT, evsK_eq] at hs
  split at hs
  · rename_i j x vs hxs
    rw [hxs] at hv
    simp only [AV.vals] at hv
    obtain ⟨c, b, hcs, hc, hb⟩ := hv
    have hc := val_int hc
    subst hc
    obtain ⟨y, hs, hrun⟩ := mnmx_sound (w := w) hb hs
    have : (execOp a.eval o).run X.P w = .ok (.value (.int j y)) w := by
      rw [run_call_builtin ho]
      have hl : (xs'.map a.eval).toList = .int j x :: b := by simpa using hcs
      have h1 := hrun X.P
      cases mx with
      | true =>
        simp only [if_true, builtin] at h1 ⊢
        refine run_v ?_
        simp only [Builtin.max_, hl]
        exact h1
      | false =>
        simp only [Bool.false_eq_true, if_false, builtin] at h1 ⊢
        refine run_v ?_
        simp only [Builtin.min_, hl]
        exact h1
    rw [this]
    exact Out.same hr (mk_int _ _ _) hs
  · exact hs.elim

/-! ### What a slice or a string yields -/
theorem sat_elems {b : Bool} {xs : List Tr} {k : List Tr → T} {s : String} (h : sat X Q (match b, xs with
      | true, xs => k xs
      | false, [] => k []
      | _, _ => .stuck s)) : (b = true ∧ sat X Q (k xs)) ∨ (xs = [] ∧ sat X Q (k [])) := by
  cases b with
  | true => exact .inl ⟨rfl, h⟩
  | false => cases xs with
    | nil => exact .inr ⟨rfl, h⟩
    | cons x r => exact h.elim
theorem elems_sound (hr : Rel X.G e H w) {a : AV} {c : Value} (ha : AV.val e a c) {esz : Nat} {k : List Tr → T} (h : sat X Q (elemsK esz H a k)) :
    ∃ ys news, sat X Q (k ys) ∧ Tr.row e.ro esz ys news ∧ ((∃ base cap, c = .slice base ys.length cap ∧ (news = [] ∨ ∃ ad, base = some ad ∧ ad.spot = none ∧ ∃ cs t fz, w.heap[ad.block]? = some (.cells cs t fz) ∧ Sub cs.toList ad.off news)) ∨ (∃ s, c = .string s ∧ esz = 1 ∧ ys.length = s.size ∧ news = byteCells s)) := by
  have nil_of {ys : List Tr} {news : List Value} (hrow : Tr.row e.ro esz ys news) (h : ys = []) : news = [] := by subst h; simpa [Tr.row] using hrow
  unfold elemsK at h
  split at h
  · rename_i full es xs
    simp only [AV.val, Tr.isAgg, Tr.rel] at ha
    obtain ⟨base, cap, hc, _, _, hh⟩ := ha
    have hc : c = .slice base xs.length cap := by simpa using hc
    rcases sat_elems h with ⟨he, hz⟩ | ⟨hx0, hz⟩
    · have he := beq_eq he
      subst he
      rcases hh with rfl | ⟨ad, mem, mid, rfl, hsp, hm, hsub, hrow⟩
      · exact ⟨[], [], hz, by simp [Tr.row], .inl ⟨base, cap, by simpa using hc, .inl rfl⟩⟩
      · obtain ⟨cs, t, fz, hk, rfl⟩ := hr.mem _ _ (.inl hm)
        exact ⟨xs, mid, hz, hrow, .inl ⟨_, cap, hc, .inr ⟨ad, rfl, hsp, cs, t, fz, hk, hsub⟩⟩⟩
    · subst hx0; exact ⟨[], [], hz, by simp [Tr.row], .inl ⟨base, cap, by simpa using hc, .inl rfl⟩⟩
  · rename_i es xs
    simp only [AV.val, AV.leaf] at ha
    obtain ⟨base, cap, hc, _, hh⟩ := ha
    have hc : c = .slice base xs.length cap := by simpa using hc
    obtain ⟨he, hz⟩ := sat_t h
    have he := beq_eq he
    subst he
    rcases hh with rfl | ⟨ad, mem, mid, rfl, hsp, hm, hsub, hrow⟩
    · exact ⟨[], [], hz, by simp [Tr.row], .inl ⟨base, cap, by simpa using hc, .inl rfl⟩⟩
    · obtain ⟨cs, t, fz, hk, rfl⟩ := hr.mem _ _ hm
      exact ⟨xs, mid, hz, hrow, .inl ⟨_, cap, hc, .inr ⟨ad, rfl, hsp, cs, t, fz, hk, hsub⟩⟩⟩
  · rename_i s
    have hc := val_str ha
    obtain ⟨he, hz⟩ := sat_t h
    have he := beq_eq he
    subst he
    refine ⟨_, byteCells s, hz, ?_, .inr ⟨s, hc, rfl, by simp, rfl⟩⟩
    unfold byteCells
    generalize s.data.toList = l
    induction l with
    | nil => simp [Tr.row]
    | cons b l ih => simp only [List.map_cons, Tr.row]; exact ⟨[.int .u8 b.toNat], _, rfl, rfl, by simp [byteT, Tr.rel], ih⟩
  · rename_i b o p off len cap
    simp only [AV.val, AV.leaf] at ha
    obtain ⟨ob, hob, h⟩ := sat_nthK h
    cases ob with
    | map _ => exact h.elim
    | gone => exact h.elim
    | row es xs =>
      obtain ⟨he, hz⟩ := sat_t h
      have he := beq_eq he
      subst he
      rcases ha with ⟨hβ, rfl, rfl, rfl, rfl, _, base, hc⟩ | ⟨blk, es', rc, nn, base, cp, hβ, hc, hle, hin, hcap, hbase⟩
      · exact ⟨_, [], hz, by simp [Tr.row], .inl ⟨base, 0, by simpa using hc, .inl rfl⟩⟩
      · have hc : c = .slice base len cp := by simpa using hc
        obtain ⟨oo, hoo, hrel⟩ := hr.obj b _ hob (by simp) _ _ _ _ hβ
        obtain ⟨rfl, hn, cs, t, fz, rfl, _, _, _, _, mid, post, hcs, hrow⟩ := hrel
        obtain ⟨hin, rfl, _⟩ := hin _ hn
        obtain ⟨mid2, hs2, hr2⟩ := Tr.row_cut hrow off len
        rw [Nat.min_eq_left (by omega)] at hs2
        have hs0 : Sub cs.toList 0 mid := ⟨[], post, by simpa using hcs, rfl⟩
        have hlen : ((xs.drop off).take len).length = len := by simp; omega
        refine ⟨_, mid2, hz, hr2, .inl ⟨base, cp, by rw [hlen]; exact hc, ?_⟩⟩
        rcases hbase with h0 | rfl
        · left; exact nil_of hr2 (by rw [← List.length_eq_zero_iff, hlen]; omega)
        · right; exact ⟨_, rfl, rfl, cs, t, fz, hoo, by simpa using hs0.trans hs2⟩
    | var v =>
      obtain ⟨y, d, hp, h⟩ := sat_getA h
      simp only [Nat.zero_add] at h
      split at h
      · rename_i m xs hod hesz
        have hod := beq_eq hod
        have hesz := beq_eq hesz
        simp only [sat] at h
        obtain ⟨hb, hz⟩ := h
        have hb := of_decide_eq_true hb
        subst hod hesz
        have hlen : ((xs.drop off).take len).length = len := by simp; omega
        rcases ha with ⟨hβ, rfl, rfl, rfl, rfl, _, base, hc⟩ | ⟨blk, es', rc, nn, base, cp, hβ, hc, hle, hin, hcap, hbase⟩
        · exact ⟨_, [], hz, by simp [Tr.row], .inl ⟨base, 0, by simpa using hc, .inl rfl⟩⟩
        · have hc : c = .slice base len cp := by simpa using hc
          obtain ⟨oo, hoo, hrel⟩ := hr.obj b _ hob (by simp) _ _ _ _ hβ
          obtain ⟨hnn, rfl, cs, t, fz, rfl, hvr, _⟩ := hrel
          obtain ⟨mid, hs, hy, _⟩ := pathA_sound (y := .undef) hp hvr
          simp only [AV.rel, AV.leaf, Tr.rel] at hy
          obtain ⟨mid2, hs2, hr2⟩ := Tr.row_cut (Tr.ones_row hy.2) off len
          rw [Nat.min_eq_left (by omega)] at hs2
          refine ⟨_, mid2, hz, hr2, .inl ⟨base, cp, by rw [hlen]; exact hc, ?_⟩⟩
          rcases hbase with h0 | rfl
          · left; exact nil_of hr2 (by rw [← List.length_eq_zero_iff, hlen]; omega)
          · right; exact ⟨_, rfl, rfl, cs, t, fz, hoo, hs.trans hs2⟩
      · exact h.elim
  · exact h.elim

/-- what it yields, as the append's law wants it -/
theorem src_of {P : Program} {esz : Nat} {tx : TypeId} {c : Value} {ys : List Tr} {news : List Value} {m : Nat → Option (List Value)} (hk : (∃ e', P.underlying tx = some (.slice e')) ∨ P.underlying tx = some .string) (hrow : Tr.row m esz ys news)
    (h : (∃ base cap, c = .slice base ys.length cap ∧ (news = [] ∨ ∃ ad, base = some ad ∧ ad.spot = none ∧ ∃ cs t fz, w.heap[ad.block]? = some (.cells cs t fz) ∧ Sub cs.toList ad.off news)) ∨ (∃ s, c = .string s ∧ esz = 1 ∧ ys.length = s.size ∧ news = byteCells s)) :
    Src P esz tx c ys.length news w := by
  have hl := Tr.row_length hrow
  rcases h with ⟨base, cap, rfl, h⟩ | ⟨s, rfl, rfl, h1, rfl⟩
  · have key : ∀ w' : World, (∀ k : Nat, w'.heap[k]? = w.heap[k]?) → (Builtin.firstCells esz ys.length (.slice base ys.length cap)).run P w' = .ok news.toArray w' := by
      intro w' hw
      rcases h with rfl | ⟨ad, rfl, hsp, cs, t, fz, hk', hsub⟩
      · have h0 : ys.length * esz = 0 := by simpa using hl.symm
        cases base with
        | none => rfl
        | some ad => simp only [Builtin.firstCells, h0]; rfl
      · have := run_loadCells_sub (P := P) (w := w') (k := ad.block) (cs := cs) (t := t) (fz := fz) (by rw [hw]; exact hk') hsub
        simp only [Builtin.firstCells, ← hl]
        rw [addr_eta hsp]; exact this
    exact ⟨hk, fun _ => rfl, key w (fun _ => rfl), key w.drew (fun _ => rfl), hl, fun u hu => Tr.row_one hrow u hu⟩
  · rw [h1]
    exact ⟨hk, fun _ => rfl, firstCells_string s w, firstCells_string s w.drew, by rw [byteCells_length, Nat.mul_one], fun u hu => by
      obtain ⟨_, _, rfl⟩ := List.mem_map.1 hu
      rfl⟩

/-! ### Appends -/
theorem append_room {P : Program} {w w' : World} (t tx ty el : TypeId) (i : TypeInfo) (ht : P.underlying t = some (.slice el)) (hi : P.info? el = some i) (b off sLen sCap : Nat) (x : Value) (n : Nat) (news : List Value) (hs : Go.Src P i.size tx x n news w)
    (hroom : sLen + n ≤ sCap) (hst : (storeCells ⟨b, off + sLen * i.size, none⟩ news).run P w = .ok () w') :
    (Builtin.append_ #[t, tx] ty #[.slice (some ⟨b, off, none⟩) sLen sCap, x]).run P w = .ok (.slice (some ⟨b, off, none⟩) (sLen + n) sCap) w' := by
  rcases hs.kind with ⟨e', hk⟩ | hk <;> simp [Builtin.append_, run_underlying ht, run_underlying hk, Go.sizeOf, typeInfo, hi, hs.len, hroom, hs.cells, Addr.add_lit, hst]

theorem roomy_spec {n bytes : Nat} (h : roomy n bytes = true) : 2 * n * bytes ≤ 281474976710656 ∧ n < 4611686018427387904 := by
  have := of_decide_eq_true h; omega

/-- The types of an append. -/
structure AppTy (P : Program) (t tx el : TypeId) (esz bytes : Nat) : Prop where
  ht : P.underlying t = some (.slice el)
  info : ∃ i z, P.info? el = some i ∧ i.size = esz ∧ i.bytes = bytes ∧ i.zero = some z ∧ z.cells.size = esz ∧ Ones z.cells.toList
  kind : (∃ e', P.underlying tx = some (.slice e')) ∨ P.underlying tx = some .string

theorem zero_ones {z : Array Value} (h : Ones z.toList) (n : Nat) : Ones (Builtin.zeroCells z n).toList := by
  intro c hc
  simp only [Builtin.zeroCells, Array.toList_map, List.mem_map] at hc
  obtain ⟨i, hi, rfl⟩ := hc
  by_cases hz : z.size = 0
  · rw [hz, Nat.mul_zero] at hi; simp at hi
  · have hlt : i % z.size < z.size := Nat.mod_lt _ (by omega)
    rw [getElem!_pos z (i % z.size) hlt]
    exact h _ (by simp)

/-- A new row behind an append that grows. -/
theorem grow_row (hr : Rel X.G e H w) {t tx ty el : TypeId} {esz bytes : Nat} (hT : AppTy X.P t tx el esz bytes) {base : Option Addr} {sLen sCap : Nat} {xs ys : List Tr} {olds news : List Value} {c : Value}
    (hold : (Builtin.firstCells esz sLen (.slice base sLen sCap)).run X.P w.drew = .ok olds.toArray w.drew) (hox : Tr.row e.ro esz xs olds) (hlen : xs.length = sLen) (hny : Tr.row e.ro esz ys news)
    (hsrc : Go.Src X.P esz tx c ys.length news w) (hg : sCap < sLen + ys.length) (hroom : roomy (sLen + ys.length) bytes = true) :
    ∃ v w' cap, (Builtin.append_ #[t, tx] ty #[.slice base sLen sCap, c]).run X.P w = .ok v w' ∧
      Step X.G e H w (e.bind H.length (.at w.heap.size esz cap (some (xs ++ ys).length))) (H ++ [.row esz (xs ++ ys)]) w' ∧
      AV.val (e.bind H.length (.at w.heap.size esz cap (some (xs ++ ys).length))) (.sl H.length 0 [] 0 (sLen + ys.length) none) v := by
  obtain ⟨i, z, hi, hsz, hby, hz, hzs, hzo⟩ := hT.info
  obtain ⟨r1, r2⟩ := roomy_spec hroom
  have hfit : Builtin.nextslicecap (sLen + ys.length) sCap * i.bytes ≤ 281474976710656 := by
    have := nextslicecap_le hg
    rw [hby]
    exact Nat.le_trans (Nat.mul_le_mul_right bytes this) r1
  subst hsz
  have hrun := run_append_grow_src w t tx ty el i z hT.ht hi hz base sLen sCap olds hold c ys.length news hsrc hg (by omega) hfit
  have hcap := grownCap_ge w (sLen + ys.length) sCap el
  refine ⟨_, _, grownCap w (sLen + ys.length) sCap el, hrun, ?_, ?_⟩
  · have hd := Step.drew hr
    have hlo := Tr.row_length hox
    have hln := Tr.row_length hny
    have hst := Step.new (o := .row i.size (xs ++ ys)) (ob := .cells ((olds ++ news).toArray ++ Builtin.zeroCells z.cells (grownCap w (sLen + ys.length) sCap el - (sLen + ys.length))) el) (esz := i.size) (cap := grownCap w (sLen + ys.length) sCap el) (n := some (xs ++ ys).length) hd.rel
      ⟨rfl, rfl, _, _, (0, 0), rfl, ⟨Nat.le_refl _, fun i _ => by simp⟩, ?_, by simp; omega, ?_, olds ++ news, _, by simp; rfl, Tr.row_append hox hny⟩
    · exact hd.trans hst
    · simp only [Array.size_append, List.size_toArray, List.length_append, size_zeroCells, hzs, hlo, hln, hlen]
      rw [← Nat.add_mul, ← Nat.add_mul]; congr 1; omega
    · intro c hc
      simp only [Array.toList_append, List.mem_append] at hc
      rcases hc with (hc | hc) | hc
      · exact Tr.row_one hox c hc
      · exact Tr.row_one hny c hc
      · exact zero_ones hzo _ c hc
  · simp only [AV.val, AV.leaf]
    exact .inr ⟨_, _, _, _, _, _, e.bind_same _ _, rfl, hcap, fun n' hn' => by obtain rfl := Option.some.inj hn'; simp; omega, ⟨rfl, rfl, Nat.zero_le _, by simp⟩, .inr (by simp)⟩

theorem append_sound (hr : Rel X.G e H w) {t tx ty el : TypeId} {esz bytes : Nat} (hT : AppTy X.P t tx el esz bytes) {inn : Bool} {s : AV} {cs c : Value} (hs0 : AV.val e s cs) {ys : List Tr} {news : List Value} (hny : Tr.row e.ro esz ys news)
    (hsrc : Go.Src X.P esz tx c ys.length news w) {k : AV → Hp → T} (h : sat X Q (appendK inn esz bytes H s ys k)) :
    ∃ v cv e' H' w', (Builtin.append_ #[t, tx] ty #[cs, c]).run X.P w = .ok cv w' ∧ AV.val e' v cv ∧ Step X.G e H w e' H' w' ∧ sat X Q (k v H') := by
  obtain ⟨i, z, hi, hsz, hby, hz, hzs, hzo⟩ := hT.info
  have empty0 {base : Option Addr} {es : Nat} (hcs : cs = .slice base 0 0) (h2 : sat X Q (.asrt (roomy ys.length bytes) (newK (.row es ys) H fun b H' => k (.sl b 0 [] 0 ys.length none) H'))) (he : es = esz) :
      ∃ v cv e' H' w', (Builtin.append_ #[t, tx] ty #[cs, c]).run X.P w = .ok cv w' ∧ AV.val e' v cv ∧ Step X.G e H w e' H' w' ∧ sat X Q (k v H') := by
    subst he
    obtain ⟨hroom, h2⟩ := h2
    rw [newK_eq] at h2
    by_cases hn : ys.length = 0
    · have hys : ys = [] := List.length_eq_zero_iff.1 hn
      subst hys
      have hnews : news = [] := by simpa [Tr.row] using hny
      subst hnews
      have hrun := run_append_nothing w t tx ty el i hT.ht hi base 0 0 (Nat.le_refl 0) c (by rw [hsz]; exact hsrc)
      refine ⟨_, _, _, _, _, by rw [hcs]; exact hrun, ?_, Step.virt hr es, h2⟩
      simp only [AV.val, AV.leaf]
      exact slRel_virt (e.bind_same _ _)
    · obtain ⟨v, w', cap, h1, h22, h3⟩ := grow_row (sLen := 0) (sCap := 0) (xs := []) (olds := []) (base := base) (ty := ty) hr hT (by
        cases base with
        | none => rfl
        | some ad => simp [Builtin.firstCells, loadCells, loadCellsFrom]) (by simp [Tr.row]) rfl hny hsrc (by omega) (by simpa using hroom)
      simp only [List.nil_append, Nat.zero_add] at h22 h3
      exact ⟨_, v, _, _, w', by rw [hcs]; exact h1, h3, h22, h2⟩
  unfold appendK at h
  split at h
  · rename_i es
    simp only [AV.val, Tr.isAgg] at hs0
    obtain ⟨base, hb⟩ := nil_rel hs0
    exact empty0 (by simpa using hb) h rfl
  · rename_i b o p off len cap
    obtain ⟨ob, hob, h⟩ := sat_nthK h
    cases ob with
    | var _ => exact h.elim
    | map _ => exact h.elim
    | gone => exact h.elim
    | row es xs =>
      cases p with
      | cons _ _ => exact h.elim
      | nil =>
        simp only at h
        obtain ⟨he, h⟩ := sat_off' h
        have he := beq_eq he
        subst he
        simp only [AV.val, AV.leaf] at hs0
        rcases hs0 with ⟨hβ, rfl, _, rfl, rfl, hcp, base, hc⟩ | ⟨blk, es', rc, nn, base, cp, hβ, hc, hle, hin, hcap, hbase⟩
        · -- an empty one of the own
          have hc : cs = .slice base 0 0 := by simpa using hc
          obtain ⟨es', he'⟩ := hr.virt b _ hob (by simp) hβ
          obtain ⟨rfl, rfl⟩ := AO.row.inj he'
          cases cap with
          | some c0 =>
            obtain rfl : c0 = 0 := by simpa using hcp
            exact empty0 hc h rfl
          | none =>
            cases inn with
            | true =>
              obtain ⟨hb, h⟩ := h
              have hb := of_decide_eq_true hb
              have hys : ys = [] := by rw [← List.length_eq_zero_iff]; simpa using hb
              subst hys
              obtain ⟨_, h⟩ := sat_setK h
              have hnews : news = [] := by simpa [Tr.row] using hny
              subst hnews
              have hrun := run_append_nothing w t tx ty el i hT.ht hi base 0 0 (Nat.le_refl 0) c (by rw [hsz]; exact hsrc)
              refine ⟨_, _, e, _, w, by rw [hc]; exact hrun, ?_, ?_, h⟩
              · simp only [AV.val, AV.leaf]; exact slRel_virt hβ
              · have : H.set b (.row es (over [] 0 [])) = H := by
                  apply List.ext_getElem?
                  intro j
                  rw [List.getElem?_set]
                  by_cases hj : b = j
                  · subst hj; rw [if_pos rfl, if_pos (lt_of_get hob), hob]; simp [over]
                  · rw [if_neg hj]
                simpa [this] using Step.refl hr
            | false =>
              obtain ⟨_, hroom, h⟩ := h
              obtain ⟨_, h⟩ := sat_setK (h.1 rfl)
              rw [newK_eq] at h
              have hg := Step.gone hr b
              have hsrc' := hsrc
              by_cases hn : ys.length = 0
              · have hys : ys = [] := List.length_eq_zero_iff.1 hn
                subst hys
                have hnews : news = [] := by simpa [Tr.row] using hny
                subst hnews
                have hrun := run_append_nothing w t tx ty el i hT.ht hi base 0 0 (Nat.le_refl 0) c (by rw [hsz]; exact hsrc)
                refine ⟨_, _, _, _, _, by rw [hc]; exact hrun, ?_, hg.trans (Step.virt hg.rel es), h⟩
                simp only [AV.val, AV.leaf]
                exact slRel_virt (e.bind_same _ _)
              · obtain ⟨v, w', cap, h1, h2, h3⟩ := grow_row (sLen := 0) (sCap := 0) (xs := []) (olds := []) (base := base) (ty := ty) hg.rel hT (by
                  cases base with
                  | none => rfl
                  | some ad => simp [Builtin.firstCells, loadCells, loadCellsFrom]) (by simp [Tr.row]) rfl hny hsrc (by omega) (by simpa using hroom)
                simp only [List.nil_append, Nat.zero_add] at h2 h3
                exact ⟨_, v, _, _, w', by rw [hc]; exact h1, h3, hg.trans h2, h⟩
        · have hc : cs = .slice base len cp := by simpa using hc
          obtain ⟨oo, hoo, hrel⟩ := hr.obj b _ hob (by simp) _ _ _ _ hβ
          obtain ⟨rfl, hn, cc, tt, fz, rfl, hfz, hcsz, hxc, hones, mid, post, hcs, hrow⟩ := hrel
          obtain ⟨hin1, rfl, hin2⟩ := hin _ hn
          have hs0 : Sub cc.toList 0 mid := ⟨[], post, by simpa using hcs, rfl⟩
          have hl := Tr.row_length hny
          have hml := Tr.row_length hrow
          -- the olds
          have holds : len ≠ 0 → ∃ olds, Sub cc.toList (off * es) olds ∧ Tr.row e.ro es ((xs.drop off).take len) olds := by
            intro _
            obtain ⟨mid2, hs2, hr2⟩ := Tr.row_cut hrow off len
            rw [Nat.min_eq_left (by omega)] at hs2
            exact ⟨mid2, by simpa using hs0.trans hs2, hr2⟩
          have hxlen : ((xs.drop off).take len).length = len := by simp; omega
          have olds_run : ∃ olds, (Builtin.firstCells es len (.slice base len cp)).run X.P w.drew = .ok olds.toArray w.drew ∧ Tr.row e.ro es ((xs.drop off).take len) olds := by
            by_cases h0 : len = 0
            · refine ⟨[], ?_, ?_⟩
              · subst h0
                cases base with
                | none => rfl
                | some ad => simp [Builtin.firstCells, loadCells, loadCellsFrom]
              · have : (xs.drop off).take len = [] := List.length_eq_zero_iff.1 (by rw [hxlen]; exact h0)
                rw [this]; simp [Tr.row]
            · obtain ⟨olds, ho1, ho2⟩ := holds h0
              refine ⟨olds, ?_, ho2⟩
              rcases hbase with hz0 | rfl
              · omega
              · have hlo := Tr.row_length ho2
                rw [hxlen] at hlo
                have := run_loadCells_sub (P := X.P) (w := w.drew) (k := blk) (cs := cc) (t := tt) (fz := fz) hoo ho1
                simp only [Builtin.firstCells, ← hlo]
                simpa using this
          -- in place
          have place (hroom : len + ys.length ≤ cp) (hfit : off + len + ys.length ≤ xs.length) (capN : Option Nat)
              (hcn : match capN with
                | some k => cp = k
                | none => (0 : Nat) = 0 ∧ ([] : List Nat) = [] ∧ off ≤ rc ∧ cp = rc - off) (hcn2 : off + capN.getD 0 ≤ xs.length)
              (h : sat X Q (k (.sl b 0 [] off (len + ys.length) capN) (H.set b (.row es (over xs (off + len) ys))))) :
              ∃ v cv e' H' w', (Builtin.append_ #[t, tx] ty #[cs, c]).run X.P w = .ok cv w' ∧ AV.val e' v cv ∧ Step X.G e H w e' H' w' ∧ sat X Q (k v H') := by
            by_cases h0 : ys.length = 0
            · have hys : ys = [] := List.length_eq_zero_iff.1 h0
              subst hys
              have hnews : news = [] := by simpa [Tr.row] using hny
              subst hnews
              have hrun := run_append_nothing w t tx ty el i hT.ht hi base len cp hle c (by rw [hsz]; exact hsrc)
              have he : H.set b (.row es (over xs (off + len) [])) = H := by
                apply List.ext_getElem?
                intro j
                rw [List.getElem?_set]
                by_cases hj : b = j
                · subst hj; rw [if_pos rfl, if_pos (lt_of_get hob), hob]; simp [over]
                · rw [if_neg hj]
              rw [he] at h
              refine ⟨_, _, e, H, w, by rw [hc]; exact hrun, ?_, Step.refl hr, h⟩
              simp only [AV.val, AV.leaf]
              refine .inr ⟨blk, es, rc, nn, base, cp, hβ, by simp, by simpa using hle, fun n' hn' => ?_, hcn, hbase⟩
              rw [hn] at hn'; obtain rfl := Option.some.inj hn'
              simp; omega
            · have hb1 : base = some ⟨blk, 0 + off * es, none⟩ := by
                rcases hbase with hz0 | hz0
                · omega
                · exact hz0
              have hstore := run_storeCells_over (P := X.P) (k := blk) (t := tt) (fz := fz) (off * es + len * es) news 0 cc w hoo hfz (by
                rw [Nat.add_zero, hl, ← Nat.add_mul, ← Nat.add_mul, hcsz]
                exact Nat.mul_le_mul_right _ (by omega)) (fun u hu => Tr.row_one hny u hu)
              have hrun := append_room (P := X.P) t tx ty el i hT.ht hi blk (0 + off * es) len cp c ys.length news (by rw [hsz]; exact hsrc) hroom (by rw [hsz]; simpa using hstore)
              have hrow' := Tr.row_over hrow hny (off + len) (by omega)
              have hsub : Sub mid ((off + len) * es) ((mid.drop ((off + len) * es)).take news.length) := by
                refine ⟨mid.take ((off + len) * es), (mid.drop ((off + len) * es)).drop news.length, ?_, ?_⟩
                · rw [List.take_append_drop, List.take_append_drop]
                · rw [List.length_take, Nat.min_eq_left]; rw [hml]; exact Nat.mul_le_mul_right _ (by omega)
              have hsl : ((mid.drop ((off + len) * es)).take news.length).length = news.length := by
                rw [List.length_take, List.length_drop, Nat.min_eq_left]
                rw [hml, hl, ← Nat.sub_mul]; exact Nat.mul_le_mul_right _ (by omega)
              have hover : over cc.toList ((off + len) * es) news = over mid ((off + len) * es) news ++ post := by
                have := over_over hs0 hsub (mid' := news) hsl.symm
                rw [Nat.zero_add] at this
                rw [← this]
                have hl2 : (over mid ((off + len) * es) news).length = mid.length := over_length _ _ _ (by have := hsub.len; omega)
                have h3 := over_pre (pre := []) (mid := mid) (post := post) hl2
                rw [hcs]
                simpa using h3
              have hcl : (over cc.toList ((off + len) * es) news).length = cc.toList.length := over_length _ _ _ (by
                have h1 := (hs0.trans hsub).len; rw [hsl] at h1; omega)
              have hstep := Step.set hr hob (by simp) hβ (o' := .row es (over xs (off + len) ys)) (ob' := .cells (over cc.toList ((off + len) * es) news).toArray tt fz)
                ⟨rfl, by rw [hn, over_length _ _ _ (by omega)], _, tt, fz, rfl, by rw [List.size_toArray, hcl]; simpa using hfz, by rw [List.size_toArray, hcl]; simpa using hcsz, by rw [over_length _ _ _ (by omega)]; exact hxc, by
                  intro c1 hc1
                  simp only [over, List.mem_append] at hc1
                  rcases hc1 with (hc1 | hc1) | hc1
                  · exact hones c1 (List.mem_of_mem_take hc1)
                  · exact Tr.row_one hny c1 hc1
                  · exact hones c1 (List.mem_of_mem_drop hc1), _, post, by simpa using hover, hrow'⟩
              refine ⟨_, _, e, _, _, by rw [hc, hb1]; exact hrun, ?_, ?_, h⟩
              · simp only [AV.val, AV.leaf]
                refine .inr ⟨blk, es, rc, nn, _, cp, hβ, by simp, hroom, fun n' hn' => ?_, hcn, .inr rfl⟩
                rw [hn] at hn'; obtain rfl := Option.some.inj hn'
                exact ⟨by omega, rfl, hcn2⟩
              · have e1 : off * es + len * es = (off + len) * es := by rw [Nat.add_mul]
                simp only [e1]; exact hstep
          cases cap with
          | some c0 =>
            simp only at hcap
            subst hcap
            cases cp with
            | zero =>
              have hl0 : len = 0 := by omega
              subst hl0
              exact empty0 hc h rfl
            | succ c1 =>
              simp only [Option.getD_some] at hin2
              by_cases hroom : len + ys.length ≤ c1 + 1
              · have h := h.1 (by simpa using hroom)
                obtain ⟨_, h⟩ := sat_setK h
                exact place hroom (by omega) (some (c1 + 1)) rfl (by simpa using hin2) h
              · obtain ⟨hrm, h⟩ := h.2 (by simpa using hroom)
                rw [newK_eq] at h
                obtain ⟨olds, ho1, ho2⟩ := olds_run
                obtain ⟨v, w', cap, h1, h2, h3⟩ := grow_row (ty := ty) hr hT ho1 ho2 hxlen hny hsrc (by omega) hrm
                exact ⟨_, v, _, _, w', by rw [hc]; exact h1, h3, h2, h⟩
          | none =>
            simp only at hcap
            cases inn with
            | true =>
              obtain ⟨hb, h⟩ := h
              have hb := of_decide_eq_true hb
              obtain ⟨_, h⟩ := sat_setK h
              exact place (by omega) hb none ⟨rfl, rfl, hcap.2.2.1, hcap.2.2.2⟩ (by simp; omega) h
            | false =>
              obtain ⟨hb, hrm, hz1⟩ := h
              obtain ⟨hb1, hb2⟩ := of_decide_eq_true hb
              have hz2 : sat X Q (k (.sl (H.set b .gone).length 0 [] 0 (xs.take len ++ ys).length none) (H.set b .gone ++ [.row es (xs.take len ++ ys)])) := by
                cases hbl : Nat.beq len xs.length with
                | true =>
                  obtain ⟨_, hz3⟩ := sat_setK (hz1.1 hbl)
                  rw [newK_eq] at hz3
                  have := beq_eq hbl
                  rw [this, List.take_length]
                  exact hz3
                | false =>
                  obtain ⟨_, hz3⟩ := sat_setK (hz1.2 hbl)
                  rw [newK_eq] at hz3
                  exact hz3
              subst hb1
              have hob0 := hob
              obtain ⟨mid0, post0, hmid, hrow0, _⟩ := Tr.row_split (xs := xs.take len) (ys := xs.drop len) (cs := mid) (by rw [List.take_append_drop]; exact hrow)
              have hcs0 : cc.toList = mid0 ++ (post0 ++ post) := by rw [hcs, hmid, List.append_assoc]
              have hxc0 : (xs.take len).length ≤ rc := by rw [List.length_take]; omega
              have hlen0 : len = (xs.take len).length := by rw [List.length_take]; omega
              have hml0 := Tr.row_length hrow0
              obtain ⟨olds, ho1, ho2⟩ := olds_run
              have hxd : (xs.drop 0).take len = xs.take len := by simp
              rw [hxd] at ho2 hxlen
              generalize hxs' : xs.take len = xs' at *
              clear hrow hcs hml hxc
              have hrow := hrow0
              have hcs := hcs0
              have hxc := hxc0
              have hml := hml0
              generalize post0 ++ post = post at *
              generalize mid0 = mid at *
              subst hlen0
              have h := hz2
              by_cases hroom : xs'.length + ys.length ≤ cp
              · -- in place
                have hrow2 := Tr.row_append hrow hny
                have fin (ob' : Obj) (w' : World) (hw : w' = World.setBlk w blk ob') (ho : (AO.row es (xs' ++ ys)).rel e es rc (some (xs' ++ ys).length) ob')
                    (hrun : (Builtin.append_ #[t, tx] ty #[.slice base xs'.length cp, c]).run X.P w = .ok (.slice base (xs'.length + ys.length) cp) w') (hbb : cp = 0 ∨ base = some ⟨blk, 0 + 0 * es, none⟩) :
                    ∃ v cv e' H' w', (Builtin.append_ #[t, tx] ty #[cs, c]).run X.P w = .ok cv w' ∧ AV.val e' v cv ∧ Step X.G e H w e' H' w' ∧ sat X Q (k v H') := by
                  have hst := Step.rename hr hob (by simp) hβ (o' := .row es (xs' ++ ys)) (ob' := ob') ho
                  subst hw
                  refine ⟨_, _, _, _, _, by rw [hc]; exact hrun, ?_, hst, h⟩
                  simp only [AV.val, AV.leaf, List.length_set]
                  refine .inr ⟨blk, es, rc, _, _, cp, e.bind_same _ _, by simp, by simpa using hroom, fun n' hn' => ?_, ⟨rfl, rfl, hcap.2.2.1, hcap.2.2.2⟩, hbb⟩
                  obtain rfl := Option.some.inj hn'
                  simp
                by_cases h0 : ys.length = 0
                · have hys : ys = [] := List.length_eq_zero_iff.1 h0
                  subst hys
                  have hnews : news = [] := by simpa [Tr.row] using hny
                  subst hnews
                  have hrun := run_append_nothing w t tx ty el i hT.ht hi base xs'.length cp hle c (by rw [hsz]; exact hsrc)
                  exact fin (.cells cc tt fz) w (setBlk_self hoo).symm ⟨rfl, rfl, cc, tt, fz, rfl, hfz, hcsz, by simpa using hxc, hones, mid, post, hcs, by simpa using hrow⟩ (by simpa using hrun) hbase
                · have hb1 : base = some ⟨blk, 0 + 0 * es, none⟩ := by
                    rcases hbase with hz0 | hz0
                    · omega
                    · exact hz0
                  have hcl0 : cc.toList.length = rc * es := by simpa using hcsz
                  have hfit : xs'.length * es + news.length ≤ cc.toList.length := by
                    rw [hl, ← Nat.add_mul, hcl0]; exact Nat.mul_le_mul_right _ (by omega)
                  have hstore := run_storeCells_over (P := X.P) (k := blk) (t := tt) (fz := fz) (xs'.length * es) news 0 cc w hoo hfz (by simpa using hfit) (fun u hu => Tr.row_one hny u hu)
                  have hrun := append_room (P := X.P) t tx ty el i hT.ht hi blk (0 + 0 * es) xs'.length cp c ys.length news (by rw [hsz]; exact hsrc) hroom (by rw [hsz]; simpa using hstore)
                  have hcl : (over cc.toList (xs'.length * es) news).length = cc.toList.length := over_length _ _ _ hfit
                  have hov : over cc.toList (xs'.length * es) news = (mid ++ news) ++ post.drop news.length := by
                    rw [hcs]
                    simp only [over, ← hml, List.take_append_of_le_length (Nat.le_refl _), List.take_of_length_le (Nat.le_refl _), List.drop_append, Nat.add_sub_cancel_left]
                    rw [List.drop_eq_nil_of_le (by omega)]; simp
                  refine fin (.cells (over cc.toList (xs'.length * es) news).toArray tt fz) _ rfl ⟨rfl, rfl, _, tt, fz, rfl, by rw [List.size_toArray, hcl]; simpa using hfz, by rw [List.size_toArray, hcl]; simpa using hcsz, by simp; omega, by
                    intro c1 hc1
                    simp only [over, List.mem_append] at hc1
                    rcases hc1 with (hc1 | hc1) | hc1
                    · exact hones c1 (List.mem_of_mem_take hc1)
                    · exact Tr.row_one hny c1 hc1
                    · exact hones c1 (List.mem_of_mem_drop hc1), mid ++ news, post.drop news.length, by simpa using hov, hrow2⟩ ?_ (.inr hb1)
                  rw [hb1]
                  simpa using hrun
              · have hg := Step.gone hr b
                obtain ⟨v, w', cap, h1, h2, h3⟩ := grow_row (ty := ty) hg.rel hT ho1 ho2 rfl hny hsrc (by omega) hrm
                refine ⟨_, v, _, _, w', by rw [hc]; exact h1, ?_, hg.trans h2, h⟩
                simpa using h3
  · exact h.elim
end Stk
