/- The framework, part M: maps: looked up, stored into, deleted from. -/
import Derived.Test.YthkbahbbdacgeaaDoorZj5
import Derived.MapKept
set_option linter.unusedSimpArgs false
namespace Stk
open Go
variable {X : Cx} {Q : Ex → Fr → Hp → Prop} {e : Env} {H : Hp} {w : World}

theorem toList_inj {a b : ByteArray} (h : a.toList = b.toList) : a = b := by
  rw [ByteArray.toList_eq, ByteArray.toList_eq] at h
  exact ByteArray.ext (Array.toList_inj.mp h)

mutual
theorem eqb_eq : ∀ {x y : Tr} {s : Sh}, x.fits s = true → y.fits s = true → x.eqb y = true → x = y
  | .bool _, y, s, hx, hy, h => by cases y <;> simp [Tr.eqb] at h; subst h; rfl
  | .int _ _, y, s, hx, hy, h => by
    cases y <;> simp [Tr.eqb] at h
    cases s <;> simp [Tr.fits] at hx hy
    obtain rfl := kindEq_eq hx
    obtain rfl := kindEq_eq hy
    subst h; rfl
  | .str _, y, s, hx, hy, h => by
    cases y <;> simp [Tr.eqb] at h
    rw [toList_inj h]
  | .nilp, y, s, h, _, _ => by cases s <;> simp [Tr.fits] at h
  | .nilm, y, s, h, _, _ => by cases s <;> simp [Tr.fits] at h
  | .nilf, y, s, h, _, _ => by cases s <;> simp [Tr.fits] at h
  | .nili, y, s, h, _, _ => by cases s <;> simp [Tr.fits] at h
  | .sl _ _ _, y, s, h, _, _ => by cases s <;> simp [Tr.fits] at h
  | .agg xs, y, s, hx, hy, h => by
    cases y <;> simp [Tr.eqb] at h
    cases s <;> simp [Tr.fits] at hx hy
    rw [eqbs_eq hx hy h]
  | .arr n xs, y, s, hx, hy, h => by
    cases y <;> simp [Tr.eqb] at h
    cases s <;> simp only [Tr.fits, Bool.and_eq_true, Bool.false_eq_true] at hx hy
    rw [eqbsa_eq hx.2 hy.2 h, beq_eq hx.1, beq_eq hy.1]
theorem eqbs_eq : ∀ {xs ys : List Tr} {ss : List Sh}, Tr.fitss xs ss = true → Tr.fitss ys ss = true → Tr.eqbs xs ys = true → xs = ys
  | [], ys, ss, hx, hy, h => by cases ys <;> simp [Tr.eqbs] at h; rfl
  | x :: xs, ys, ss, hx, hy, h => by
    cases ys <;> simp [Tr.eqbs] at h
    cases ss <;> simp [Tr.fitss] at hx hy
    rw [eqb_eq hx.1 hy.1 h.1, eqbs_eq hx.2 hy.2 h.2]
theorem eqbsa_eq : ∀ {xs ys : List Tr} {s : Sh}, Tr.fitsa xs s = true → Tr.fitsa ys s = true → Tr.eqbs xs ys = true → xs = ys
  | [], ys, ss, hx, hy, h => by cases ys <;> simp [Tr.eqbs] at h; rfl
  | x :: xs, ys, ss, hx, hy, h => by
    cases ys <;> simp [Tr.eqbs] at h
    simp only [Tr.fitsa, Bool.and_eq_true] at hx hy
    rw [eqb_eq hx.1 hy.1 h.1, eqbsa_eq hx.2 hy.2 h.2]
end

mutual
theorem fits_det {m : Nat → Option (List Value)} : ∀ {x : Tr} {s : Sh} {a b : List Value}, x.fits s = true → x.rel m a → x.rel m b → a = b ∧ ∀ c ∈ a, ∀ n, Instr.sameBits n c c = true
  | .bool _, s, a, b, h, ha, hb => by simp only [Tr.rel] at ha hb; subst ha hb; simp [Instr.sameBits]
  | .int _ _, s, a, b, h, ha, hb => by simp only [Tr.rel] at ha hb; subst ha hb; simp [Instr.sameBits]
  | .str _, s, a, b, h, ha, hb => by simp only [Tr.rel] at ha hb; subst ha hb; simp [Instr.sameBits, MapKept.bytes_beq]
  | .nilp, s, a, b, h, _, _ => by cases s <;> simp [Tr.fits] at h
  | .nilm, s, a, b, h, _, _ => by cases s <;> simp [Tr.fits] at h
  | .nilf, s, a, b, h, _, _ => by cases s <;> simp [Tr.fits] at h
  | .nili, s, a, b, h, _, _ => by cases s <;> simp [Tr.fits] at h
  | .sl _ _ _, s, a, b, h, _, _ => by cases s <;> simp [Tr.fits] at h
  | .agg xs, s, a, b, h, ha, hb => by
    cases s <;> simp [Tr.fits] at h
    simp only [Tr.rel] at ha hb
    exact fitss_det h ha hb
  | .arr n xs, s, a, b, h, ha, hb => by
    cases s <;> simp only [Tr.fits, Bool.and_eq_true, Bool.false_eq_true] at h
    simp only [Tr.rel] at ha hb
    exact fitsa_det h.2 ha.2 hb.2
theorem fitss_det {m : Nat → Option (List Value)} : ∀ {xs : List Tr} {ss : List Sh} {a b : List Value}, Tr.fitss xs ss = true → Tr.rels m xs a → Tr.rels m xs b → a = b ∧ ∀ c ∈ a, ∀ n, Instr.sameBits n c c = true
  | [], ss, a, b, h, ha, hb => by simp only [Tr.rels] at ha hb; subst ha hb; simp
  | x :: xs, ss, a, b, h, ha, hb => by
    cases ss <;> simp [Tr.fitss] at h
    simp only [Tr.rels] at ha hb
    obtain ⟨a1, a2, rfl, h1, h2⟩ := ha
    obtain ⟨b1, b2, rfl, g1, g2⟩ := hb
    obtain ⟨e1, s1⟩ := fits_det h.1 h1 g1
    obtain ⟨e2, s2⟩ := fitss_det h.2 h2 g2
    refine ⟨by rw [e1, e2], fun c hc => ?_⟩
    rcases List.mem_append.1 hc with hc | hc
    · exact s1 c hc
    · exact s2 c hc
theorem fitsa_det {m : Nat → Option (List Value)} : ∀ {xs : List Tr} {s : Sh} {a b : List Value}, Tr.fitsa xs s = true → Tr.ones m xs a → Tr.ones m xs b → a = b ∧ ∀ c ∈ a, ∀ n, Instr.sameBits n c c = true
  | [], s, a, b, h, ha, hb => by simp only [Tr.ones] at ha hb; subst ha hb; simp
  | x :: xs, s, a, b, h, ha, hb => by
    simp only [Tr.fitsa, Bool.and_eq_true] at h
    simp only [Tr.ones] at ha hb
    obtain ⟨a1, a2, rfl, _, h1, h2⟩ := ha
    obtain ⟨b1, b2, rfl, _, g1, g2⟩ := hb
    obtain ⟨e1, s1⟩ := fits_det h.1 h1 g1
    obtain ⟨e2, s2⟩ := fitsa_det h.2 h2 g2
    simp only [List.cons.injEq, and_true] at e1
    refine ⟨by rw [e1, e2], fun c hc => ?_⟩
    rcases List.mem_cons.1 hc with rfl | hc
    · exact s1 _ (by simp)
    · exact s2 c hc
end

theorem TV_det {m : Nat → Option (List Value)} {x : Tr} {s : Sh} {a b : Value} (h : x.fits s = true) (ha : TV m x a) (hb : TV m x b) : a = b ∧ Instr.sameBits 10000 a a = true := by
  unfold TV at ha hb
  cases hx : x.isAgg <;> rw [hx] at ha hb
  · obtain ⟨h1, h2⟩ := fits_det h ha hb
    simp only [List.cons.injEq, and_true] at h1
    exact ⟨h1, h2 _ (by simp) _⟩
  · obtain ⟨cs, rfl, h1⟩ := ha
    obtain ⟨ds, rfl, h2⟩ := hb
    obtain ⟨h3, h4⟩ := fits_det h h1 h2
    refine ⟨by rw [Array.toList_inj.1 h3], ?_⟩
    simp only [Instr.sameBits, beq_self_eq_true, Bool.true_and, List.all_eq_true]
    intro p hp
    obtain ⟨c, d⟩ := p
    have h5 : ∀ (l : List Value) (c d : Value), (c, d) ∈ l.zip l → c = d ∧ c ∈ l := by
      intro l
      induction l with
      | nil => simp
      | cons y ys ih =>
        intro c d h
        simp only [List.zip_cons_cons, List.mem_cons, Prod.mk.injEq] at h
        rcases h with ⟨rfl, rfl⟩ | h
        · simp
        · obtain ⟨h1, h2⟩ := ih c d h; exact ⟨h1, by simp [h2]⟩
    obtain ⟨rfl, hc⟩ := h5 _ _ _ hp
    exact h4 c hc 9999

theorem modify_mid {α : Type} (f : α → α) : ∀ (a : List α) (x : α) (b : List α), (a ++ x :: b).modify a.length f = a ++ f x :: b
  | [], _, _ => rfl
  | y :: a, x, b => by
    rw [List.cons_append, List.length_cons, List.modify_succ_cons, modify_mid f a x b]; rfl

theorem mapRel_length {m : Nat → Option (List Value)} : ∀ {es : List (Tr × Tr)} {l : List MapEntry}, mapRel m es l → l.length = es.length
  | [], l, h => by simp only [mapRel] at h; simp [h]
  | (x, v) :: r, l, h => by
    simp only [mapRel] at h
    obtain ⟨me, es', rfl, _, _, h⟩ := h
    simp [mapRel_length h]

theorem Births.push {l : List MapEntry} {clock : Nat} (h : Births l clock) {x : MapEntry} (hx : x.born = clock) : Births (l ++ [x]) (clock + 1) := by
  refine ⟨?_, fun y hy => ?_⟩
  · rw [List.map_append, List.nodup_append]
    refine ⟨h.1, by simp, ?_⟩
    intro a ha b hb
    simp only [List.map_cons, List.map_nil, List.mem_singleton] at hb
    subst hb
    rintro rfl
    obtain ⟨y, hy, hyb⟩ := List.mem_map.1 ha
    have := h.2 y hy
    omega
  · rcases List.mem_append.1 hy with hy | hy
    · have := h.2 y hy; omega
    · rw [List.mem_singleton.1 hy]; omega
theorem Births.modify {l1 l2 : List MapEntry} {me : MapEntry} {clock : Nat} {k v : Value} (h : Births (l1 ++ me :: l2) clock) : Births (l1 ++ { me with key := k, val := v } :: l2) clock := by
  obtain ⟨h1, h2⟩ := h
  refine ⟨by simpa using h1, fun y hy => ?_⟩
  rcases List.mem_append.1 hy with hy | hy
  · exact h2 y (by simp [hy])
  · rcases List.mem_cons.1 hy with rfl | hy
    · exact h2 me (by simp)
    · exact h2 y (by simp [hy])
theorem Births.erase {l1 l2 : List MapEntry} {me : MapEntry} {clock : Nat} (h : Births (l1 ++ me :: l2) clock) : Births (l1 ++ l2) clock :=
  ⟨h.1.sublist (((List.Sublist.refl l1).append (List.sublist_cons_self me l2)).map _), fun y hy => h.2 y (by rcases List.mem_append.1 hy with hy | hy <;> simp [hy])⟩

theorem run_stays {P : Program} {m : Nat → Option (List Value)} {x : Tr} {s : Sh} {a b : Value} (h : x.fits s = true) (ha : TV m x a) (hb : TV m x b) : (Instr.keyThatStays a b).run P w = .ok b w := by
  obtain ⟨rfl, h2⟩ := TV_det h ha hb
  simp [Instr.keyThatStays, h2]

/-! ### A key is looked at -/
theorem checkFields_sound {P : Program} {m : Nat → Option (List Value)} {w : World} {D : Nat} {em : Bool} {f : TypeId → Sh → Bool} {xa : Array Value}
    (ih : ∀ t s x a, f t s = true → x.fits s = true → TV m x a → (Instr.checkKey em D t a).run P w = .ok () w) :
    ∀ {fs : List Field} {ss : List Sh} {off : Nat} {xs : List Tr} {p cs : List Value}, eqFs P f off fs ss = true → Tr.fitss xs ss = true →
      xa.toList = p ++ cs → p.length = off → Tr.rels m xs cs →
      (forIn fs PUnit.unit (fun (fl : Field) (_ : PUnit) => do
        if fl.name ≠ "_" then do
          Instr.checkKey em D fl.type (← part fl.type xa fl.offset)
          pure (ForInStep.yield PUnit.unit)
        else pure (ForInStep.yield PUnit.unit)) : Sem PUnit).run P w = .ok () w
  | [], [], off, xs, p, cs, _, hx, _, _, _ => by simp
  | [], s :: ss, off, xs, p, cs, h, _, _, _, _ => by simp [eqFs] at h
  | fl :: fs, [], off, xs, p, cs, h, _, _, _, _ => by simp [eqFs] at h
  | fl :: fs, s :: ss, off, xs, p, cs, h, hx, e1, e2, hr => by
    cases xs with
    | nil => simp [Tr.fitss] at hx
    | cons x xs =>
        simp only [Tr.fitss, Bool.and_eq_true] at hx
        simp only [eqFs, Bool.and_eq_true, bne_iff_ne, ne_eq] at h
        obtain ⟨⟨⟨⟨k1, k2⟩, k3⟩, k4⟩, k5⟩ := h
        have k2 := beq_eq k2
        simp only [Tr.rels] at hr
        obtain ⟨a, b, rfl, h1, h2⟩ := hr
        obtain ⟨sx, gx⟩ := fits_sz hx.1
        obtain ⟨u, hu, hu2⟩ := part_sound (w := w) (P := P) (t := fl.type) (cs := xa) (off := off) ⟨p, b, e1, e2⟩ h1 (by rw [gx, sx]; exact k3)
        have hl := Tr.rel_length h1
        have rest := checkFields_sound ih (p := p ++ a) k5 hx.2 (by rw [e1, List.append_assoc]) (by simp [e2, hl, sx]) h2
        simp only [List.forIn_cons, Sem.run_bind, ne_eq, k1, not_false_eq_true, if_true, k2, hu, Result.andThen_ok, ih _ _ _ _ k4 hx.1 hu2, Sem.run_pure]
        exact rest

theorem check_sound {P : Program} {m : Nat → Option (List Value)} {w : World} {D0 : Nat} {em : Bool} : ∀ (d : Nat) (t : TypeId) (sh : Sh) (x : Tr) (a : Value), eqSh P d t sh = true → x.fits sh = true → TV m x a →
    (Instr.checkKey em (D0 + d) t a).run P w = .ok () w
  | 0, t, sh, x, a, h, _, _ => by simp [eqSh] at h
  | d + 1, t, sh, x, a, h, hx, hxa => by
    unfold eqSh at h
    split at h
    · rename_i hu
      cases x <;> simp [Tr.fits] at hx
      simp only [TV, Tr.isAgg, Tr.rel, List.cons.injEq, and_true] at hxa
      subst hxa
      rw [← Nat.add_assoc]; simp [Instr.checkKey, run_underlying hu, Result.andThen]
    · rename_i k j hu
      cases x <;> simp [Tr.fits] at hx
      simp only [TV, Tr.isAgg, Tr.rel, List.cons.injEq, and_true] at hxa
      subst hxa
      rw [← Nat.add_assoc]; simp [Instr.checkKey, run_underlying hu, Result.andThen]
    · rename_i hu
      cases x <;> simp [Tr.fits] at hx
      simp only [TV, Tr.isAgg, Tr.rel, List.cons.injEq, and_true] at hxa
      subst hxa
      rw [← Nat.add_assoc]; simp [Instr.checkKey, run_underlying hu, Result.andThen]
    · rename_i fs ss hu
      simp only [Bool.and_eq_true, Bool.not_eq_true'] at h
      cases x <;> simp [Tr.fits] at hx
      simp only [TV, Tr.isAgg, Tr.rel] at hxa
      obtain ⟨cs, rfl, h1⟩ := hxa
      rw [← Nat.add_assoc, Instr.checkKey]
      simp only [Sem.run_bind, run_underlying hu, Result.andThen_ok]
      have := checkFields_sound (P := P) (w := w) (D := D0 + d) (em := em) (f := eqSh P d) (xa := cs) (fun t s x a => check_sound d t s x a) h.2 hx (p := []) rfl rfl h1
      rw [← Array.forIn_toList, this]
      simp
    · rename_i n el m' s hu
      simp only [Bool.and_eq_true, Bool.not_eq_true'] at h
      obtain ⟨⟨⟨h1, h2⟩, h3⟩, h4⟩ := h
      obtain rfl := beq_eq h1
      cases x <;> simp only [Tr.fits, Bool.and_eq_true, Bool.false_eq_true] at hx
      rename_i n1 xs
      obtain rfl := beq_eq hx.1
      simp only [TV, Tr.isAgg, Tr.rel] at hxa
      obtain ⟨cs, rfl, l1, o1⟩ := hxa
      have hinfo : ∃ i, P.info? el = some i ∧ i.size = 1 := by
        unfold tyOK at h2
        split at h2
        · rename_i dd i _ hi; simp at h2; exact ⟨i, hi, h2.2⟩
        · cases h2
      obtain ⟨i, hi, hi1⟩ := hinfo
      rw [← Nat.add_assoc, Instr.checkKey]
      simp only [Sem.run_bind, run_underlying hu, Result.andThen_ok]
      simp only [Std.Legacy.Range.forIn_eq_forIn_range', Std.Legacy.Range.size, Nat.sub_zero, Nat.add_one_sub_one, Nat.div_one]
      have key : ∀ (is : List Nat), (∀ j ∈ is, j < n1) → (forIn is PUnit.unit (fun (i : Nat) (_ : PUnit) => do
          let n ← Go.sizeOf el
          let v ← part el cs (i * n)
          Instr.checkKey em (D0 + d) el v
          pure (ForInStep.yield PUnit.unit)) : Sem PUnit).run P w = .ok () w := by
        intro is
        induction is with
        | nil => intro _; simp
        | cons j is ihk =>
          intro hj
          have hjl : j < xs.length := by rw [l1]; exact hj j (by simp)
          have gx : xs[j]? = some (xs[j]) := List.getElem?_eq_getElem _
          generalize xs[j] = u at gx
          obtain ⟨cu, c1, c2, c3⟩ := Tr.ones_get o1 gx
          have fu := fitsa_get hx.2 gx
          have su : u.sz = 1 := by cases u <;> first | rfl | simp [Tr.isAgg] at c2
          rw [h3] at h2
          obtain ⟨pa, q1, q2⟩ := part_sound (w := w) (P := P) (t := el) (cs := cs) (off := j) (Sub.one c1) c3 (by rw [c2, su]; exact h2)
          simp only [List.forIn_cons, Sem.run_bind, run_sizeOf (n := 1) (by rw [hi]; simp [hi1]) w, Nat.mul_one, Result.andThen_ok, q1, check_sound d el s u pa h4 fu q2, Sem.run_pure]
          exact ihk (fun y hy => hj y (by simp [hy]))
      rw [key (List.range' 0 n1) (fun j hj => by simp at hj; omega)]
      simp
    · cases h

/-! ### A key is found -/
theorem mapRel_cons {m : Nat → Option (List Value)} {x v : Tr} {r : List (Tr × Tr)} {es : List MapEntry} : mapRel m ((x, v) :: r) es ↔ ∃ me es', es = me :: es' ∧ TV m x me.key ∧ TV m v me.val ∧ mapRel m r es' := by
  simp only [mapRel, TV]; exact Iff.rfl
theorem mapRel_app {m : Nat → Option (List Value)} : ∀ {xs ys : List (Tr × Tr)} {l : List MapEntry}, mapRel m (xs ++ ys) l ↔ ∃ a b, l = a ++ b ∧ a.length = xs.length ∧ mapRel m xs a ∧ mapRel m ys b
  | [], ys, l => by
    constructor
    · intro h; exact ⟨[], l, rfl, rfl, by simp [mapRel], h⟩
    · rintro ⟨a, b, rfl, ha, h1, h2⟩; simp at ha; subst ha; exact h2
  | (x, v) :: xs, ys, l => by
    rw [List.cons_append, mapRel_cons]
    constructor
    · rintro ⟨me, es', rfl, h1, h2, h3⟩
      obtain ⟨a, b, rfl, hl, h4, h5⟩ := mapRel_app.1 h3
      exact ⟨me :: a, b, rfl, by simp [hl], mapRel_cons.2 ⟨me, a, rfl, h1, h2, h4⟩, h5⟩
    · rintro ⟨a, b, rfl, hl, h4, h5⟩
      obtain ⟨me, a', rfl, h1, h2, h3⟩ := mapRel_cons.1 h4
      exact ⟨me, a' ++ b, rfl, h1, h2, mapRel_app.2 ⟨a', b, rfl, by simpa using hl, h3, h5⟩⟩

theorem mfind_cases (x : Tr) : ∀ (es : List (Tr × Tr)),
    ((∀ p ∈ es, x.eqb p.1 = false) ∧ mfind x es = none ∧ (∀ v, mput x v es = es ++ [(x, v)]) ∧ mdel x es = es) ∨
    ∃ pre q u post, es = pre ++ (q, u) :: post ∧ (∀ p ∈ pre, x.eqb p.1 = false) ∧ x.eqb q = true ∧ mfind x es = some u ∧ (∀ v, mput x v es = pre ++ (x, v) :: post) ∧ mdel x es = pre ++ post
  | [] => .inl ⟨by simp, rfl, fun _ => rfl, rfl⟩
  | (a, b) :: r => by
    cases h : x.eqb a with
    | true => exact .inr ⟨[], a, b, r, rfl, by simp, h, by simp [mfind, h], fun v => by simp [mput, h], by simp [mdel, h]⟩
    | false =>
      rcases mfind_cases x r with ⟨h1, h2, h3, h4⟩ | ⟨pre, q, u, post, rfl, h1, h2, h3, h4, h5⟩
      · exact .inl ⟨by simpa [h] using h1, by simp [mfind, h, h2], fun v => by simp [mput, h, h3], by simp [mdel, h, h4]⟩
      · exact .inr ⟨(a, b) :: pre, q, u, post, rfl, by simpa [h] using h1, h2, by simp [mfind, h, h3], fun v => by simp [mput, h, h4], by simp [mdel, h, h5]⟩

theorem sameNow_sound {m : Nat → Option (List Value)} {d : TypeDesc} {x y : Tr} {s : Sh} {a b : Value} (hx : x.fits s = true) (hy : y.fits s = true) (ha : TV m x a) (hb : TV m y b) :
    Instr.sameNow d a b = none ∨ Instr.sameNow d a b = some (x.eqb y) := by
  cases x
  case bool p =>
    cases s <;> simp [Tr.fits] at hx
    cases y <;> simp [Tr.fits] at hy
    simp only [TV, Tr.isAgg, Tr.rel, List.cons.injEq, and_true] at ha hb
    subst ha hb
    cases d <;> simp [Instr.sameNow, Tr.eqb]
  case int k p =>
    cases s <;> simp [Tr.fits] at hx
    cases y <;> simp [Tr.fits] at hy
    simp only [TV, Tr.isAgg, Tr.rel, List.cons.injEq, and_true] at ha hb
    subst ha hb
    obtain rfl := kindEq_eq hx
    obtain rfl := kindEq_eq hy
    cases d <;> simp [Instr.sameNow, Tr.eqb]
  case str p =>
    cases s <;> simp [Tr.fits] at hx
    cases y <;> simp [Tr.fits] at hy
    simp only [TV, Tr.isAgg, Tr.rel, List.cons.injEq, and_true] at ha hb
    subst ha hb
    cases d <;> simp only [Instr.sameNow, Tr.eqb, true_or]
    right
    rename_i q
    congr 1
    rw [Bool.eq_iff_iff, MapKept.bytes_beq]
    simp only [beq_iff_eq]
    exact ⟨fun h => by rw [h], toList_inj⟩
  case agg xs =>
    simp only [TV, Tr.isAgg] at ha
    obtain ⟨cs, rfl, _⟩ := ha
    left; cases d <;> simp [Instr.sameNow]
  case arr n xs =>
    simp only [TV, Tr.isAgg] at ha
    obtain ⟨cs, rfl, _⟩ := ha
    left; cases d <;> simp [Instr.sameNow]
  all_goals (cases s <;> simp [Tr.fits] at hx)

theorem findNow_no {m : Nat → Option (List Value)} {d : TypeDesc} {x : Tr} {s : Sh} {a : Value} (hx : x.fits s = true) (ha : TV m x a) : ∀ {es : List (Tr × Tr)} {l : List MapEntry} (i : Nat), mapRel m es l → (∀ p ∈ es, p.1.fits s = true) → (∀ p ∈ es, x.eqb p.1 = false) →
    Instr.findNow d a l i = none ∨ Instr.findNow d a l i = some none
  | [], l, i, h, _, _ => by simp only [mapRel] at h; subst h; simp [Instr.findNow]
  | (y, v) :: r, l, i, h, hf, hn => by
    obtain ⟨me, l', rfl, h1, h2, h3⟩ := mapRel_cons.1 h
    have := sameNow_sound (d := d) hx (hf (y, v) (by simp)) ha h1
    rw [hn (y, v) (by simp)] at this
    rcases this with h | h
    · simp [Instr.findNow, h]
    · simp only [Instr.findNow, h]
      exact findNow_no hx ha (i + 1) h3 (fun p hp => hf p (by simp [hp])) (fun p hp => hn p (by simp [hp]))
theorem findNow_yes {m : Nat → Option (List Value)} {d : TypeDesc} {x : Tr} {s : Sh} {a : Value} (hx : x.fits s = true) (ha : TV m x a) {q : Tr} (hq : q.fits s = true) (hqe : x.eqb q = true) {me : MapEntry} (hme : TV m q me.key) {rest : List MapEntry} :
    ∀ {es : List (Tr × Tr)} {l : List MapEntry} (i : Nat), mapRel m es l → (∀ p ∈ es, p.1.fits s = true) → (∀ p ∈ es, x.eqb p.1 = false) →
    Instr.findNow d a (l ++ me :: rest) i = none ∨ Instr.findNow d a (l ++ me :: rest) i = some (some (i + l.length, me.val))
  | [], l, i, h, _, _ => by
    simp only [mapRel] at h; subst h
    have := sameNow_sound (d := d) hx hq ha hme
    rw [hqe] at this
    rcases this with h | h <;> simp [Instr.findNow, h]
  | (y, v) :: r, l, i, h, hf, hn => by
    obtain ⟨me', l', rfl, h1, h2, h3⟩ := mapRel_cons.1 h
    have := sameNow_sound (d := d) hx (hf (y, v) (by simp)) ha h1
    rw [hn (y, v) (by simp)] at this
    rcases this with h | h
    · simp [Instr.findNow, h]
    · simp only [List.cons_append, Instr.findNow, h]
      have := findNow_yes hx ha hq hqe hme (d := d) (rest := rest) (i + 1) h3 (fun p hp => hf p (by simp [hp])) (fun p hp => hn p (by simp [hp]))
      rw [show i + (me' :: l').length = i + 1 + l'.length from by simp; omega]
      exact this

theorem findAsk_no {P : Program} {m : Nat → Option (List Value)} {t : TypeId} {x : Tr} {s : Sh} {a : Value} (hs : eqSh P 100 t s = true) (hx : x.fits s = true) (ha : TV m x a) : ∀ {es : List (Tr × Tr)} {l : List MapEntry} (i : Nat), mapRel m es l → (∀ p ∈ es, p.1.fits s = true) → (∀ p ∈ es, x.eqb p.1 = false) →
    (Instr.findAsking t a l i).run P w = .ok none w
  | [], l, i, h, _, _ => by simp only [mapRel] at h; subst h; simp [Instr.findAsking]
  | (y, v) :: r, l, i, h, hf, hn => by
    obtain ⟨me, l', rfl, h1, h2, h3⟩ := mapRel_cons.1 h
    have key : (Op.equal t a me.key).run P w = .ok (x.eqb y) w := eqIn_sound (P := P) (w := w) (D0 := 9900) 100 t s x y _ _ hs hx (hf (y, v) (by simp)) ha h1
    rw [hn (y, v) (by simp)] at key
    simp only [Instr.findAsking, Sem.run_bind, key, Result.andThen_ok, Bool.false_eq_true, if_false]
    exact findAsk_no hs hx ha (i + 1) h3 (fun p hp => hf p (by simp [hp])) (fun p hp => hn p (by simp [hp]))
theorem findAsk_yes {P : Program} {m : Nat → Option (List Value)} {t : TypeId} {x : Tr} {s : Sh} {a : Value} (hs : eqSh P 100 t s = true) (hx : x.fits s = true) (ha : TV m x a) {q : Tr} (hq : q.fits s = true) (hqe : x.eqb q = true) {me : MapEntry} (hme : TV m q me.key) {rest : List MapEntry} :
    ∀ {es : List (Tr × Tr)} {l : List MapEntry} (i : Nat), mapRel m es l → (∀ p ∈ es, p.1.fits s = true) → (∀ p ∈ es, x.eqb p.1 = false) →
    (Instr.findAsking t a (l ++ me :: rest) i).run P w = .ok (some (i + l.length, me.val)) w
  | [], l, i, h, _, _ => by
    simp only [mapRel] at h; subst h
    have key : (Op.equal t a me.key).run P w = .ok (x.eqb q) w := eqIn_sound (P := P) (w := w) (D0 := 9900) 100 t s x q _ _ hs hx hq ha hme
    rw [hqe] at key
    simp [Instr.findAsking, key, Result.andThen]
  | (y, v) :: r, l, i, h, hf, hn => by
    obtain ⟨me', l', rfl, h1, h2, h3⟩ := mapRel_cons.1 h
    have key : (Op.equal t a me'.key).run P w = .ok (x.eqb y) w := eqIn_sound (P := P) (w := w) (D0 := 9900) 100 t s x y _ _ hs hx (hf (y, v) (by simp)) ha h1
    rw [hn (y, v) (by simp)] at key
    simp only [List.cons_append, Instr.findAsking, Sem.run_bind, key, Result.andThen_ok, Bool.false_eq_true, if_false]
    rw [show i + (me' :: l').length = i + 1 + l'.length from by simp; omega]
    exact findAsk_yes hs hx ha hq hqe hme (i + 1) h3 (fun p hp => hf p (by simp [hp])) (fun p hp => hn p (by simp [hp]))

/-- What a search gives. -/
theorem find_sound {P : Program} {m : Nat → Option (List Value)} {t : TypeId} {x : Tr} {s : Sh} {a : Value} (hs : eqSh P 100 t s = true) (hx : x.fits s = true) (ha : TV m x a) {es : List (Tr × Tr)} {l : List MapEntry} (h : mapRel m es l) (hf : ∀ p ∈ es, p.1.fits s = true) :
    ((Instr.findKey t a l).run P w = .ok none w ∧ mfind x es = none ∧ (∀ v, mput x v es = es ++ [(x, v)]) ∧ mdel x es = es) ∨
    ∃ pre u post l1 me l2, (Instr.findKey t a l).run P w = .ok (some (l1.length, me.val)) w ∧ l = l1 ++ me :: l2 ∧ mapRel m pre l1 ∧ mapRel m post l2 ∧ TV m x me.key ∧ TV m u me.val ∧
      mfind x es = some u ∧ (∀ v, mput x v es = pre ++ (x, v) :: post) ∧ mdel x es = pre ++ post := by
  have hu : ∃ d, P.underlying t = some d := by
    unfold eqSh at hs
    split at hs
    any_goals exact ⟨_, by assumption⟩
    cases hs
  obtain ⟨d, hd⟩ := hu
  rcases mfind_cases x es with ⟨h1, h2, h3, h4⟩ | ⟨pre, q, u, post, rfl, h1, h2, h3, h4, h5⟩
  · refine .inl ⟨?_, h2, h3, h4⟩
    rcases findNow_no (d := d) hx ha 0 h hf h1 with hn | hn
    · simp only [Instr.findKey, Sem.run_bind, run_underlying hd, Result.andThen_ok, hn]
      exact findAsk_no hs hx ha 0 h hf h1
    · simp only [Instr.findKey, Sem.run_bind, run_underlying hd, Result.andThen_ok, hn, Sem.run_pure]
  · obtain ⟨l1, l', rfl, hl, g1, g2⟩ := mapRel_app.1 h
    obtain ⟨me, l2, rfl, g3, g4, g5⟩ := mapRel_cons.1 g2
    have hq : q.fits s = true := hf (q, u) (by simp)
    have hfp : ∀ p ∈ pre, p.1.fits s = true := fun p hp => hf p (by simp [hp])
    obtain rfl := eqb_eq hx hq h2
    refine .inr ⟨pre, u, post, l1, me, l2, ?_, rfl, g1, g5, g3, g4, h3, h4, h5⟩
    rcases findNow_yes (d := d) hx ha hq h2 g3 (rest := l2) 0 g1 hfp h1 with hn | hn
    · simp only [Instr.findKey, Sem.run_bind, run_underlying hd, Result.andThen_ok, hn]
      simpa using findAsk_yes (w := w) hs hx ha hq h2 g3 (rest := l2) 0 g1 hfp h1
    · simp only [Instr.findKey, Sem.run_bind, run_underlying hd, Result.andThen_ok, hn, Sem.run_pure, Nat.zero_add]

theorem TV_val {e : Env} {x : Tr} {c : Value} (h : TV e.ro x c) : AV.val e (.t x) c := by
  unfold TV at h
  simp only [AV.val]
  cases hx : x.isAgg <;> rw [hx] at h <;> exact h

theorem zeroOK_TV {t : TypeId} {z : Tr} (h : zeroOK X.P t z = true) (m : Nat → Option (List Value)) : ∃ v, TV m z v ∧ ∀ w, (zeroValue t).run X.P w = .ok v w := by
  obtain ⟨v, i, h1, h2, _, h3, h4⟩ := zeroOK_run h m
  refine ⟨v, ?_, h4⟩
  unfold zeroOK at h
  rw [h1] at h
  simp only [h2, Bool.and_eq_true] at h
  have hk := h.2
  unfold TV
  cases hz : z.isAgg with
  | true =>
    rw [hz] at hk
    cases v <;> simp at hk
    exact ⟨_, rfl, by simpa [Value.cells] using h3⟩
  | false =>
    rw [hz] at hk
    cases v <;> first | (simp at hk; done) | (simpa [Value.cells] using h3)

theorem sat_asrt' {b : Bool} {k : T} (h : sat X Q (.asrt b k)) : b = true ∧ sat X Q k := h

theorem val_nilm {e : Env} {c : Value} (h : AV.val e (.t .nilm) c) : c = .map none := by
  simpa [AV.val, Tr.isAgg, Tr.rel] using h

theorem mk_okpair {e : Env} {x : Tr} {c : Value} {b : Bool} (h : TV e.ro x c) : AV.val e (.tup [.t x, .t (.bool b)]) (.tuple #[c, .bool b]) := by
  simp only [AV.val]
  refine ⟨_, rfl, ?_⟩
  simp only [AV.vals]
  exact ⟨_, _, rfl, TV_val h, _, _, rfl, mk_bool _ _, rfl⟩

theorem op_lookup {t kt et : TypeId} {ok : Bool} {z : Tr} {sh : Sh} {x y : Opd} {x' y' : Operand} (hx : chkOpd X.G x x' = true) (hy : chkOpd X.G y y' = true) (ht : X.P.underlying t = some (.map kt et)) (hs : eqSh X.P 100 kt sh = true) (hz : zeroOK X.P et z = true) :
    OpS0 X (.lookup t x' y' ok) (.lookup ok z sh x y) := by
  intro o ho e H w fr a Q k hr hf hk
  have hxv := chkOpd_val hr hf hx
  have hyv := chkOpd_val hr hf hy
  obtain ⟨zv, hz1, hz2⟩ := zeroOK_TV (X := X) hz e.ro
  simp only [opT, evK_eq] at hk
  split at hk
  · rename_i y1 hxa hya
    rw [hxa] at hxv; rw [hya] at hyv
    have hxv := val_nilm hxv
    obtain ⟨hfit, hk⟩ := hk
    have ty := TV_of_val hyv
    have hc := check_sound (P := X.P) (w := w) (D0 := 9900) (em := true) 100 kt sh y1 _ hs hfit ty
    have hr1 : (Instr.lookup t (a.eval x') (a.eval y') ok).run X.P w = .ok (if ok then .tuple #[zv, .bool false] else zv) w := by
      have hc : (Instr.checkKey true 10000 kt (a.eval y')).run X.P w = .ok () w := hc
      have hu : ∃ d, X.P.underlying kt = some d := by
        unfold eqSh at hs
        split at hs
        any_goals exact ⟨_, by assumption⟩
        cases hs
      obtain ⟨d, hd⟩ := hu
      simp [Instr.lookup, run_underlying ht, hxv, hc, Instr.findKey, run_underlying hd, Instr.findNow, hz2, Result.andThen]
    rw [show (execOp a.eval o).run X.P w = .ok (.value (if ok then .tuple #[zv, .bool false] else zv)) w from by simp only [execOp, ho]; exact run_v hr1]
    cases ok with
    | true => exact Out.same hr (mk_okpair hz1) hk
    | false => exact Out.same hr (TV_val hz1) hk
  · rename_i b y1 hxa hya
    rw [hxa] at hxv; rw [hya] at hyv
    simp only [AV.val, AV.leaf] at hxv
    obtain ⟨blk, esz, rc, n, hβ, hc⟩ := hxv
    obtain ⟨ob, hob, hk⟩ := sat_nthK hk
    have key : ∀ es : List (Tr × Tr), (∃ ents clock, w.heap[blk]? = some (.map ents clock) ∧ mapRel e.ro es ents.toList) → sat X Q (.asrt (y1.fits sh && es.all (fun p => p.1.fits sh)) (match (generalizing := false) ok with
        | true => k (.tup [.t ((mfind y1 es).getD z), .t (.bool (mfind y1 es).isSome)]) H
        | false => k (.t ((mfind y1 es).getD z)) H)) → Out0 X e H w Q k ((execOp a.eval o).run X.P w) := by
      rintro es ⟨ents, clock, hoo, hm⟩ hk
      obtain ⟨hfit, hk⟩ := hk
      simp only [Bool.and_eq_true, List.all_eq_true] at hfit
      have ty := TV_of_val hyv
      simp at hc
      have hck : (Instr.checkKey ents.isEmpty 10000 kt (a.eval y')).run X.P w = .ok () w := check_sound (P := X.P) (w := w) (D0 := 9900) 100 kt sh y1 _ hs hfit.1 ty
      rcases find_sound (w := w) hs hfit.1 ty hm hfit.2 with ⟨h1, h2, _, _⟩ | ⟨pre, u, post, l1, me, l2, h1, _, _, _, _, h6, h7, _, _⟩
      · have hr1 : (Instr.lookup t (a.eval x') (a.eval y') ok).run X.P w = .ok (if ok then .tuple #[zv, .bool false] else zv) w := by
          simp [Instr.lookup, run_underlying ht, hc, MapKept.run_getObj_map hoo, hck, h1, hz2, Result.andThen]
        rw [show (execOp a.eval o).run X.P w = .ok (.value (if ok then .tuple #[zv, .bool false] else zv)) w from by simp only [execOp, ho]; exact run_v hr1]
        rw [h2] at hk
        cases ok with
        | true => exact Out.same hr (mk_okpair hz1) hk
        | false => exact Out.same hr (TV_val hz1) hk
      · have hr1 : (Instr.lookup t (a.eval x') (a.eval y') ok).run X.P w = .ok (if ok then .tuple #[me.val, .bool true] else me.val) w := by
          simp [Instr.lookup, run_underlying ht, hc, MapKept.run_getObj_map hoo, hck, h1, Result.andThen]
        rw [show (execOp a.eval o).run X.P w = .ok (.value (if ok then .tuple #[me.val, .bool true] else me.val)) w from by simp only [execOp, ho]; exact run_v hr1]
        rw [h7] at hk
        cases ok with
        | true => exact Out.same hr (mk_okpair h6) hk
        | false => exact Out.same hr (TV_val h6) hk
    split at hk
    · obtain ⟨oo, hoo, hrel⟩ := hr.obj b _ hob (by simp) _ _ _ _ hβ
      obtain ⟨_, ents, clock, rfl, hm, _⟩ := hrel
      exact key _ ⟨ents, clock, hoo, hm⟩ hk
    · obtain ⟨oo, hoo, hrel⟩ := hr.obj b _ hob (by simp) _ _ _ _ hβ
      obtain ⟨_, ents, clock, rfl, hm, _⟩ := hrel
      exact key _ ⟨ents, clock, hoo, hm⟩ hk
    · exact hk.elim
  · exact hk.elim

theorem frzK_kind {H : Hp} {u : AV} {k : Tr → Hp → T} : frzK H u k = frzK H u (fun x H' => match x.isAgg == u.isAgg with | true => k x H' | false => .stuck "kind") := by
  cases u with
  | t x => simp [frzK, AV.isAgg]
  | sl b o p off len cap => 
    simp only [frzK]
    congr 1
  | agg xs => simp only [frzK]; rfl
  | _ => rfl

theorem frz_val (hr : Rel X.G e H w) {u : AV} {c : Value} (hv : AV.val e u c) {k : Tr → Hp → T} (h : sat X Q (frzK H u k)) :
    ∃ x e' H', sat X Q (k x H') ∧ Step X.G e H w e' H' w ∧ TV e'.ro x c := by
  have hsol : u.solid = true := by
    cases u <;> first | rfl | (simp only [frzK] at h; exact h.elim)
  have hvr := solid_rel hv hsol
  rw [frzK_kind] at h
  obtain ⟨x, e', H', h1, h2, h3⟩ := frz_sound hr hvr h
  refine ⟨x, e', H', ?_⟩
  split at h1
  · rename_i hk
    refine ⟨h1, h2, ?_⟩
    simp only [beq_iff_eq] at hk
    unfold TV
    cases hx : x.isAgg with
    | true =>
      rw [hx] at hk
      have hc : ∃ cs, c = .agg cs := by
        cases u with
        | agg xs => simp only [AV.val] at hv; obtain ⟨cs, rfl, _⟩ := hv; exact ⟨cs, rfl⟩
        | t x => simp only [AV.isAgg] at hk; simp only [AV.val, ← hk] at hv; obtain ⟨cs, rfl, _⟩ := hv; exact ⟨cs, rfl⟩
        | _ => simp [AV.isAgg] at hk
      obtain ⟨cs, rfl⟩ := hc
      exact ⟨cs, rfl, by simpa [Value.cells] using h3⟩
    | false =>
      rw [hx] at hk
      have hc : c.cells = #[c] := by
        cases u with
        | agg xs => simp [AV.isAgg] at hk
        | t y =>
          simp only [AV.isAgg] at hk
          simp only [AV.val, ← hk] at hv
          cases y <;> simp only [Tr.rel, List.cons.injEq, and_true] at hv <;> first | (subst hv; rfl) | (obtain ⟨_, _, rfl, _⟩ := hv; rfl) | (simp [Tr.isAgg] at hk)
        | sl b o p off len cap =>
          simp only [AV.val, AV.leaf, slRel] at hv
          rcases hv with ⟨_, _, _, _, rfl, _, base, hc⟩ | ⟨_, _, _, _, base, c', _, hc, _⟩
          · simp at hc; subst hc; rfl
          · simp at hc; subst hc; rfl
        | _ => simp [frzK] at h; exact h.elim
      rw [hc] at h3
      exact h3
  · exact h1.elim

theorem op_mapup {t kt et : TypeId} {sh : Sh} {x y v : Opd} {x' y' v' : Operand} (hx : chkOpd X.G x x' = true) (hy : chkOpd X.G y y' = true) (hv : chkOpd X.G v v' = true) (ht : X.P.underlying t = some (.map kt et)) (hs : eqSh X.P 100 kt sh = true) {op : Op} (hop : op = .mapUpdate t x' y' v' ∨ op = .insert t x' y' v') :
    OpS X op (.mapup sh x y v) := by
  intro o ho e H w fr a Q k hr hf hk
  have hxv := chkOpd_val hr hf hx
  have hyv := chkOpd_val hr hf hy
  have huv := chkOpd_val hr hf hv
  simp only [opT, evK_eq] at hk
  split at hk
  · rename_i b y1 hxa hya
    rw [hxa] at hxv; rw [hya] at hyv
    obtain ⟨u, e1, H1, hk, hst, htu⟩ := frz_val hr huv hk
    have hr1 := hst.rel
    have hto := hst.to hr
    have hxv := AV.val_to hto hxv
    have hyv := AV.val_to hto hyv
    simp only [AV.val, AV.leaf, id] at hxv
    obtain ⟨blk, esz, rc, n, hβ, hc⟩ := hxv
    obtain ⟨ob, hob, hk⟩ := sat_nthK hk
    split at hk
    · rename_i es
      obtain ⟨oo, hoo, hrel⟩ := hr1.obj b _ hob (by simp) _ _ _ _ hβ
      obtain ⟨hn, ents, clock, rfl, hm, hbi⟩ := hrel
      obtain ⟨hfit, hk⟩ := hk
      simp only [Bool.and_eq_true, List.all_eq_true] at hfit
      obtain ⟨_, hk⟩ := sat_setK hk
      have ty := TV_of_val hyv
      simp at hc
      have hck : (Instr.checkKey false 10000 kt (a.eval y')).run X.P w = .ok () w := check_sound (P := X.P) (w := w) (D0 := 9900) 100 kt sh y1 _ hs hfit.1 ty
      rcases find_sound (w := w) hs hfit.1 ty hm hfit.2 with ⟨h1, _, h3, _⟩ | ⟨pre, u1, post, l1, me, l2, h1, h2, h3, h4, h5, _, _, h8, _⟩
      · have hrun : (Instr.mapUpdate t (a.eval x') (a.eval y') (a.eval v')).run X.P w = .ok () (World.setBlk w blk (.map (ents.push { key := a.eval y', val := a.eval v', born := clock }) (clock + 1))) := by
          simp [Instr.mapUpdate, run_underlying ht, hc, MapKept.run_getObj_map hoo, hck, h1, MapKept.run_setObj_map _ hoo, Result.andThen, World.setBlk]
        have hst2 := Step.set hr1 hob (by simp) hβ (o' := .map (mput y1 u es)) (ob' := .map (ents.push { key := a.eval y', val := a.eval v', born := clock }) (clock + 1)) ⟨hn, _, _, rfl, by
          rw [h3, Array.toList_push]
          exact mapRel_app.2 ⟨_, _, rfl, mapRel_length hm, hm, mapRel_cons.2 ⟨_, _, rfl, ty, htu, by simp [mapRel]⟩⟩, by rw [Array.toList_push]; exact hbi.push rfl⟩
        rw [show (execOp a.eval o).run X.P w = _ from by rcases hop with rfl | rfl <;> (simp only [execOp, ho]; exact run_u hrun)]
        exact ⟨_, _, _, _, _, .inr ⟨rfl, rfl⟩, by simp only [AV.val], hst.trans hst2, hk⟩
      · have hi : ents[l1.length]? = some me := by
          rw [← Array.getElem?_toList, h2]; simp
        have hrun : (Instr.mapUpdate t (a.eval x') (a.eval y') (a.eval v')).run X.P w = .ok () (World.setBlk w blk (.map (ents.modify l1.length fun e => { e with key := a.eval y', val := a.eval v' }) clock)) := by
          simp [Instr.mapUpdate, run_underlying ht, hc, MapKept.run_getObj_map hoo, hck, h1, hi, run_stays hfit.1 h5 ty, MapKept.run_setObj_map _ hoo, Result.andThen, World.setBlk]
        have hmod : (ents.modify l1.length fun e => { e with key := a.eval y', val := a.eval v' }).toList = l1 ++ { me with key := a.eval y', val := a.eval v' } :: l2 := by
          rw [Array.toList_modify, h2, modify_mid]
        have hst2 := Step.set hr1 hob (by simp) hβ (o' := .map (mput y1 u es)) (ob' := .map (ents.modify l1.length fun e => { e with key := a.eval y', val := a.eval v' }) clock) ⟨hn, _, _, rfl, by
          rw [h8, hmod]
          exact mapRel_app.2 ⟨_, _, rfl, mapRel_length h3, h3, mapRel_cons.2 ⟨_, _, rfl, ty, htu, h4⟩⟩, by rw [hmod]; rw [h2] at hbi; exact hbi.modify⟩
        rw [show (execOp a.eval o).run X.P w = _ from by rcases hop with rfl | rfl <;> (simp only [execOp, ho]; exact run_u hrun)]
        exact ⟨_, _, _, _, _, .inr ⟨rfl, rfl⟩, by simp only [AV.val], hst.trans hst2, hk⟩
    · exact hk.elim
  · exact hk.elim

theorem op_del {t t2 kt et : TypeId} {sh : Sh} {x y : Opd} {x' y' : Operand} (hx : chkOpd X.G x x' = true) (hy : chkOpd X.G y y' = true) (ht : X.P.underlying t = some (.map kt et)) (hs : eqSh X.P 100 kt sh = true) :
    OpS X (.call { callee := .builtin .delete, args := #[x', y'], argTypes := #[t, t2] }) (.del sh x y) := by
  intro o ho e H w fr a Q k hr hf hk
  have hxv := chkOpd_val hr hf hx
  have hyv := chkOpd_val hr hf hy
  simp only [opT, evK_eq] at hk
  have run {c : Value} {w' : World} (h : (Builtin.delete_ #[t, t2] o.type #[a.eval x', a.eval y']).run X.P w = .ok c w') : (execOp a.eval o).run X.P w = .ok (.value c) w' := by
    rw [run_call_builtin ho]
    simp only [builtin]
    exact run_v (by simpa using h)
  split at hk
  · rename_i y1 hxa hya
    rw [hxa] at hxv; rw [hya] at hyv
    have hxv := val_nilm hxv
    obtain ⟨hfit, hk⟩ := hk
    have ty := TV_of_val hyv
    have hc : (Instr.checkKey true 10000 kt (a.eval y')).run X.P w = .ok () w := check_sound (P := X.P) (w := w) (D0 := 9900) (em := true) 100 kt sh y1 _ hs hfit ty
    rw [run (c := .tuple #[]) (w' := w) (by simp [Builtin.delete_, run_underlying ht, hxv, hc, Result.andThen])]
    exact ⟨_, _, e, H, w, .inl rfl, by simp [AV.val, AV.vals], Step.refl hr, hk⟩
  · rename_i b y1 hxa hya
    rw [hxa] at hxv; rw [hya] at hyv
    simp only [AV.val, AV.leaf] at hxv
    obtain ⟨blk, esz, rc, n, hβ, hc⟩ := hxv
    obtain ⟨ob, hob, hk⟩ := sat_nthK hk
    split at hk
    · rename_i es
      obtain ⟨oo, hoo, hrel⟩ := hr.obj b _ hob (by simp) _ _ _ _ hβ
      obtain ⟨hn, ents, clock, rfl, hm, hbi⟩ := hrel
      obtain ⟨hfit, hk⟩ := hk
      simp only [Bool.and_eq_true, List.all_eq_true] at hfit
      obtain ⟨_, hk⟩ := sat_setK hk
      have ty := TV_of_val hyv
      simp at hc
      have hck : (Instr.checkKey ents.isEmpty 10000 kt (a.eval y')).run X.P w = .ok () w := check_sound (P := X.P) (w := w) (D0 := 9900) 100 kt sh y1 _ hs hfit.1 ty
      rcases find_sound (w := w) hs hfit.1 ty hm hfit.2 with ⟨h1, _, _, h4⟩ | ⟨pre, u1, post, l1, me, l2, h1, h2, h3, h4, h5, _, _, _, h9⟩
      · rw [run (c := .tuple #[]) (w' := World.setBlk w blk (.map ents clock)) (by
          simp [Builtin.delete_, run_underlying ht, hc, MapKept.run_getObj_map hoo, hck, h1, MapKept.run_setObj_map _ hoo, Result.andThen, World.setBlk])]
        exact ⟨_, _, _, _, _, .inl rfl, by simp [AV.val, AV.vals], Step.set hr hob (by simp) hβ (o' := .map (mdel y1 es)) ⟨hn, _, _, rfl, by rw [h4]; exact hm, hbi⟩, hk⟩
      · have he : (ents.eraseIdxIfInBounds l1.length).toList = l1 ++ l2 := by
          rw [Array.toList_eraseIdxIfInBounds, h2]; simp [List.eraseIdx_append_of_length_le]
        rw [run (c := .tuple #[]) (w' := World.setBlk w blk (.map (ents.eraseIdxIfInBounds l1.length) clock)) (by
          simp [Builtin.delete_, run_underlying ht, hc, MapKept.run_getObj_map hoo, hck, h1, MapKept.run_setObj_map _ hoo, Result.andThen, World.setBlk])]
        exact ⟨_, _, _, _, _, .inl rfl, by simp [AV.val, AV.vals], Step.set hr hob (by simp) hβ (o' := .map (mdel y1 es)) ⟨hn, _, _, rfl, by
          rw [h9, he]; exact mapRel_app.2 ⟨_, _, rfl, mapRel_length h3, h3, h4⟩, by rw [he]; rw [h2] at hbi; exact hbi.erase⟩, hk⟩
    · exact hk.elim
  · exact hk.elim
end Stk
