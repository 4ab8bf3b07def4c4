/- The framework, part Q: comparable data held against each other. -/
import Derived.Test.YthkbahbbdacgeaaDoorFw14
import Derived.ChangeKeysEq
set_option linter.unusedSimpArgs false
namespace Stk
open Go
variable {X : Cx} {Q : Ex → Fr → Hp → Prop} {e : Env} {H : Hp} {w : World}

/-- A value that is this data. -/
def TV (m : Nat → Option (List Value)) (x : Tr) (a : Value) : Prop :=
  match x.isAgg with
  | true => ∃ cs, a = .agg cs ∧ x.rel m cs.toList
  | false => x.rel m [a]
theorem TV.mk {m : Nat → Option (List Value)} {x : Tr} {mid : List Value} (h : x.rel m mid) : (x.isAgg = true ∧ TV m x (.agg mid.toArray)) ∨ (x.isAgg = false ∧ ∃ c, mid = [c] ∧ TV m x c) := by
  cases hx : x.isAgg with
  | true => exact .inl ⟨rfl, by simp only [TV, hx]; exact ⟨_, rfl, by simpa using h⟩⟩
  | false =>
    refine .inr ⟨rfl, ?_⟩
    have hl := Tr.rel_length h
    have : x.sz = 1 := by cases x <;> first | rfl | simp [Tr.isAgg] at hx
    rw [this] at hl
    match mid, hl, h with
    | [c], _, h => exact ⟨c, rfl, by simp only [TV, hx]; exact h⟩

theorem part_sound {P : Program} {w : World} {m : Nat → Option (List Value)} {t : TypeId} {cs : Array Value} {off : Nat} {mid : List Value} {x : Tr} (hs : Sub cs.toList off mid) (hx : x.rel m mid) (ht : tyOK P t x.isAgg x.sz = true) :
    ∃ a, (part t cs off).run P w = .ok a w ∧ TV m x a := by
  obtain ⟨h1, h2⟩ := tyOK_run ht w
  have hl := Tr.rel_length hx
  rcases TV.mk hx with ⟨ha, hv⟩ | ⟨ha, c, rfl, hv⟩
  · refine ⟨_, ?_, hv⟩
    rw [ha] at h1
    simp only [part, Sem.run_bind, h1, Result.andThen, if_true, h2]
    have : cs.extract off (off + x.sz) = mid.toArray := by
      apply Array.ext'
      rw [Array.toList_extract]
      simp only [List.extract_eq_take_drop]
      have := hs.eq
      rw [show off + x.sz - off = mid.length from by omega]; simpa using this
    rw [this]; rfl
  · refine ⟨c, ?_, hv⟩
    rw [ha] at h1
    simp only [part, Sem.run_bind, h1, Result.andThen]
    have := hs.get (j := 0) rfl
    have : cs[off]? = some c := by simpa using this
    simp [this]

mutual
theorem fits_sz : ∀ {x : Tr} {s : Sh}, x.fits s = true → x.sz = s.sz ∧ x.isAgg = s.isAgg
  | .bool _, s, h => by cases s <;> simp_all [Tr.fits, Tr.sz, Sh.sz, Tr.isAgg, Sh.isAgg]
  | .int _ _, s, h => by cases s <;> simp_all [Tr.fits, Tr.sz, Sh.sz, Tr.isAgg, Sh.isAgg]
  | .str _, s, h => by cases s <;> simp_all [Tr.fits, Tr.sz, Sh.sz, Tr.isAgg, Sh.isAgg]
  | .nilp, s, h => by cases s <;> simp [Tr.fits] at h
  | .nilm, s, h => by cases s <;> simp [Tr.fits] at h
  | .nilf, s, h => by cases s <;> simp [Tr.fits] at h
  | .nili, s, h => by cases s <;> simp [Tr.fits] at h
  | .sl _ _ _, s, h => by cases s <;> simp [Tr.fits] at h
  | .agg xs, s, h => by
    cases s <;> simp [Tr.fits] at h
    simp [Tr.sz, Sh.sz, fitss_sz h, Tr.isAgg, Sh.isAgg]
  | .arr n xs, s, h => by
    cases s <;> simp only [Tr.fits, Bool.and_eq_true, Bool.false_eq_true] at h
    have := beq_eq h.1
    simp [Tr.sz, Sh.sz, this, Tr.isAgg, Sh.isAgg]
theorem fitss_sz : ∀ {xs : List Tr} {ss : List Sh}, Tr.fitss xs ss = true → Tr.szs xs = Sh.szs ss
  | [], ss, h => by cases ss <;> simp_all [Tr.fitss, Tr.szs_nil, Tr.szs_cons, Sh.szs_nil, Sh.szs_cons]
  | x :: xs, ss, h => by
    cases ss <;> simp [Tr.fitss] at h
    simp [Tr.szs_nil, Tr.szs_cons, Sh.szs_nil, Sh.szs_cons, (fits_sz h.1).1, fitss_sz h.2]
end
theorem fitsa_get : ∀ {xs : List Tr} {s : Sh}, Tr.fitsa xs s = true → ∀ {i : Nat} {x : Tr}, xs[i]? = some x → x.fits s = true
  | [], s, _, i, x, hi => by simp at hi
  | y :: ys, s, h, i, x, hi => by
    simp only [Tr.fitsa, Bool.and_eq_true] at h
    cases i with
    | zero => simp at hi; subst hi; exact h.1
    | succ i => exact fitsa_get h.2 (by simpa using hi)

def eqFs (P : Program) (f : TypeId → Sh → Bool) : Nat → List Field → List Sh → Bool
  | _, [], [] => true
  | off, fl :: fs, s :: ss => fl.name != "_" && Nat.beq fl.offset off && tyOK P fl.type s.isAgg s.sz && f fl.type s && eqFs P f (off + s.sz) fs ss
  | _, _, _ => false
/-- Comparable types, with their shapes. -/
def eqSh (P : Program) : Nat → TypeId → Sh → Bool
  | 0, _, _ => false
  | d + 1, t, sh => match P.underlying t, sh with
    | some .bool, .bool => true
    | some (.int k), .int j => kindEq k j
    | some .string, .str => true
    | some (.struct fs), .agg ss => !P.stoodInHeld t && eqFs P (eqSh P d) 0 fs.toList ss
    | some (.array n e), .arr m s => Nat.beq n m && tyOK P e s.isAgg 1 && !s.isAgg && eqSh P d e s
    | _, _ => false

theorem eqFields_sound {P : Program} {m : Nat → Option (List Value)} {w : World} {D : Nat} {f : TypeId → Sh → Bool} {xa ya : Array Value}
    (ih : ∀ t s x y a b, f t s = true → x.fits s = true → y.fits s = true → TV m x a → TV m y b → (Op.equalIn D t a b).run P w = .ok (x.eqb y) w) :
    ∀ {fs : List Field} {ss : List Sh} {off : Nat} {xs ys : List Tr} {p q cs ds : List Value}, eqFs P f off fs ss = true → Tr.fitss xs ss = true → Tr.fitss ys ss = true →
      xa.toList = p ++ cs → p.length = off → ya.toList = q ++ ds → q.length = off → Tr.rels m xs cs → Tr.rels m ys ds →
      (Op.eqFields D xa ya fs).run P w = .ok (Tr.eqbs xs ys) w
  | [], [], off, xs, ys, p, q, cs, ds, _, hx, hy, _, _, _, _, _, _ => by
    cases xs with
    | nil => cases ys with
      | nil => simp [Op.eqFields, Tr.eqbs]
      | cons _ _ => simp [Tr.fitss] at hy
    | cons _ _ => simp [Tr.fitss] at hx
  | [], s :: ss, off, xs, ys, p, q, cs, ds, h, _, _, _, _, _, _, _, _ => by simp [eqFs] at h
  | fl :: fs, [], off, xs, ys, p, q, cs, ds, h, _, _, _, _, _, _, _, _ => by simp [eqFs] at h
  | fl :: fs, s :: ss, off, xs, ys, p, q, cs, ds, h, hx, hy, e1, e2, e3, e4, hr, hr' => by
    cases xs with
    | nil => simp [Tr.fitss] at hx
    | cons x xs =>
      cases ys with
      | nil => simp [Tr.fitss] at hy
      | cons y ys =>
        simp only [Tr.fitss, Bool.and_eq_true] at hx hy
        simp only [eqFs, Bool.and_eq_true, bne_iff_ne, ne_eq] at h
        obtain ⟨⟨⟨⟨k1, k2⟩, k3⟩, k4⟩, k5⟩ := h
        have k2 := beq_eq k2
        simp only [Tr.rels] at hr hr'
        obtain ⟨a, b, rfl, h1, h2⟩ := hr
        obtain ⟨a', b', rfl, h1', h2'⟩ := hr'
        obtain ⟨sx, gx⟩ := fits_sz hx.1
        obtain ⟨sy, gy⟩ := fits_sz hy.1
        obtain ⟨u, hu, hu2⟩ := part_sound (w := w) (P := P) (t := fl.type) (cs := xa) (off := off) ⟨p, b, e1, e2⟩ h1 (by rw [gx, sx]; exact k3)
        obtain ⟨v, hv, hv2⟩ := part_sound (w := w) (P := P) (t := fl.type) (cs := ya) (off := off) ⟨q, b', e3, e4⟩ h1' (by rw [gy, sy]; exact k3)
        have hl := Tr.rel_length h1
        have hl' := Tr.rel_length h1'
        have rest := eqFields_sound ih (p := p ++ a) (q := q ++ a') k5 hx.2 hy.2 (by rw [e1, List.append_assoc]) (by simp [e2, hl, sx]) (by rw [e3, List.append_assoc]) (by simp [e4, hl', sy]) h2 h2'
        simp only [Op.eqFields, k1, ne_eq, not_false_eq_true, if_true, k2, Sem.run_bind, hu, hv, Result.andThen_ok, ih _ _ _ _ _ _ k4 hx.1 hy.1 hu2 hv2, Tr.eqbs]
        cases x.eqb y with
        | true => simpa using rest
        | false => simp

theorem eqbs_drop {xs ys : List Tr} {i : Nat} {x y : Tr} (hx : xs[i]? = some x) (hy : ys[i]? = some y) : Tr.eqbs (xs.drop i) (ys.drop i) = (x.eqb y && Tr.eqbs (xs.drop (i + 1)) (ys.drop (i + 1))) := by
  have lx := lt_of_get hx
  have ly := lt_of_get hy
  rw [List.drop_eq_getElem_cons lx, List.drop_eq_getElem_cons ly]
  have : xs[i] = x := by rw [List.getElem?_eq_getElem lx] at hx; exact Option.some.inj hx
  have : ys[i] = y := by rw [List.getElem?_eq_getElem ly] at hy; exact Option.some.inj hy
  simp_all [Tr.eqbs]

theorem eqIn_sound {P : Program} {m : Nat → Option (List Value)} {w : World} {D0 : Nat} : ∀ (d : Nat) (t : TypeId) (sh : Sh) (x y : Tr) (a b : Value), eqSh P d t sh = true → x.fits sh = true → y.fits sh = true → TV m x a → TV m y b →
    (Op.equalIn (D0 + d) t a b).run P w = .ok (x.eqb y) w
  | 0, t, sh, x, y, a, b, h, _, _, _, _ => by simp [eqSh] at h
  | d + 1, t, sh, x, y, a, b, h, hx, hy, hxa, hyb => by
    unfold eqSh at h
    split at h
    · rename_i hu
      cases x <;> simp [Tr.fits] at hx
      cases y <;> simp [Tr.fits] at hy
      simp only [TV, Tr.isAgg, Tr.rel, List.cons.injEq, and_true] at hxa hyb
      subst hxa hyb
      rw [← Nat.add_assoc, run_equalIn_bool w _ t _ _ hu]; simp [Tr.eqb]
    · rename_i k j hu
      obtain rfl := kindEq_eq h
      cases x <;> simp [Tr.fits] at hx
      cases y <;> simp [Tr.fits] at hy
      simp only [TV, Tr.isAgg, Tr.rel, List.cons.injEq, and_true] at hxa hyb
      subst hxa hyb
      obtain rfl := kindEq_eq hx
      obtain rfl := kindEq_eq hy
      rw [← Nat.add_assoc, run_equalIn_int w _ t _ _ _ _ hu]; simp [Tr.eqb]
    · rename_i hu
      cases x <;> simp [Tr.fits] at hx
      cases y <;> simp [Tr.fits] at hy
      simp only [TV, Tr.isAgg, Tr.rel, List.cons.injEq, and_true] at hxa hyb
      subst hxa hyb
      rw [← Nat.add_assoc, run_equalIn_string w _ t _ _ hu]; simp [Tr.eqb]
    · rename_i fs ss hu
      simp only [Bool.and_eq_true, Bool.not_eq_true'] at h
      cases x <;> simp [Tr.fits] at hx
      cases y <;> simp [Tr.fits] at hy
      simp only [TV, Tr.isAgg, Tr.rel] at hxa hyb
      obtain ⟨cs, rfl, h1⟩ := hxa
      obtain ⟨ds, rfl, h2⟩ := hyb
      have hf : P.fieldsOf t = fs := by simp [Program.fieldsOf, hu]
      rw [← Nat.add_assoc, run_equalIn_struct w _ t cs ds (by rw [hf]; exact hu) h.1, hf]
      simp only [Tr.eqb]
      exact eqFields_sound (f := eqSh P d) (fun t s x y a b => eqIn_sound d t s x y a b) h.2 hx hy (p := []) (q := []) rfl rfl rfl rfl h1 h2
    · rename_i n el m' s hu
      simp only [Bool.and_eq_true, Bool.not_eq_true'] at h
      obtain ⟨⟨⟨h1, h2⟩, h3⟩, h4⟩ := h
      obtain rfl := beq_eq h1
      cases x <;> simp only [Tr.fits, Bool.and_eq_true, Bool.false_eq_true] at hx
      cases y <;> simp only [Tr.fits, Bool.and_eq_true, Bool.false_eq_true] at hy
      rename_i n1 xs n2 ys
      obtain rfl := beq_eq hx.1
      obtain rfl := beq_eq hy.1
      simp only [TV, Tr.isAgg, Tr.rel] at hxa hyb
      obtain ⟨cs, rfl, l1, o1⟩ := hxa
      obtain ⟨ds, rfl, l2, o2⟩ := hyb
      have hinfo : ∃ i, P.info? el = some i ∧ i.size = 1 := by
        unfold tyOK at h2
        split at h2
        · rename_i dd i _ hi; simp at h2; exact ⟨i, hi, h2.2⟩
        · cases h2
      obtain ⟨i, hi, hi1⟩ := hinfo
      have hc1 : P.cellsOf el = 1 := by simp [Program.cellsOf, hi, hi1]
      rw [← Nat.add_assoc, run_equalIn_array w _ cs ds hu hi, hc1]
      simp only [Tr.eqb]
      have key : ∀ (k i : Nat), i + k = n2 → (Op.eqItems (D0 + d) el 1 cs ds (List.range' i k)).run P w = .ok (Tr.eqbs (xs.drop i) (ys.drop i)) w := by
        intro k
        induction k with
        | zero => intro i hi; rw [List.drop_eq_nil_of_le (by omega), List.drop_eq_nil_of_le (by omega)]; simp [Op.eqItems, Tr.eqbs]
        | succ k ihk =>
          intro i hik
          have gx : xs[i]? = some (xs[i]'(by omega)) := List.getElem?_eq_getElem _
          have gy : ys[i]? = some (ys[i]'(by omega)) := List.getElem?_eq_getElem _
          generalize xs[i]'(by omega) = u at gx
          generalize ys[i]'(by omega) = v at gy
          obtain ⟨cu, c1, c2, c3⟩ := Tr.ones_get o1 gx
          obtain ⟨cv, d1, d2, d3⟩ := Tr.ones_get o2 gy
          have fu := fitsa_get hx.2 gx
          have fv := fitsa_get hy.2 gy
          have su : u.sz = 1 := by cases u <;> first | rfl | simp [Tr.isAgg] at c2
          have sv : v.sz = 1 := by cases v <;> first | rfl | simp [Tr.isAgg] at d2
          rw [h3] at h2
          obtain ⟨pa, q1, q2⟩ := part_sound (w := w) (P := P) (t := el) (cs := cs) (off := i) (Sub.one c1) c3 (by rw [c2, su]; exact h2)
          obtain ⟨pb, r1, r2⟩ := part_sound (w := w) (P := P) (t := el) (cs := ds) (off := i) (Sub.one d1) d3 (by rw [d2, sv]; exact h2)
          rw [List.range'_succ]
          simp only [Op.eqItems, Nat.mul_one, Sem.run_bind, q1, r1, Result.andThen_ok, eqIn_sound d el s u v pa pb h4 fu fv q2 r2, eqbs_drop gx gy]
          cases u.eqb v with
          | true => simpa using ihk (i + 1) (by omega)
          | false => simp
      have := key n2 0 (by omega)
      rw [List.range_eq_range']; simpa using this
    · cases h

theorem eqGuard_agg {op : BinOp} {t : TypeId} {x y : Operand} {P : Program} {cs ds : Array Value} {w : World} (h : P.eqGuardType P.depth t = false) : (eqGuard op t x y (.agg cs) (.agg ds)).run P w = .ok () w := by
  unfold eqGuard; split <;> simp [h]

theorem TV_of_val {e : Env} {x : Tr} {c : Value} (h : AV.val e (.t x) c) : TV e.ro x c := by
  simp only [AV.val] at h
  unfold TV
  cases hx : x.isAgg <;> rw [hx] at h <;> exact h

theorem op_eqs {op : BinOp} {neg : Bool} {sh : Sh} {t u : TypeId} {x y : Opd} {x' y' : Operand} (hx : chkOpd X.G x x' = true) (hy : chkOpd X.G y y' = true) (hop : op = if neg then .neq else .eql) (hs : eqSh X.P 100 t sh = true) (ha : sh.isAgg = true) (hg : X.P.eqGuardType X.P.depth t = false) :
    OpS0 X (.binOp op t x' y' u) (.eqs neg sh x y) := by
  intro o ho e H w fr a Q k hr hf hz
  have hxv := chkOpd_val hr hf hx
  have hyv := chkOpd_val hr hf hy
  simp only [opT, evK_eq] at hz
  split at hz
  · rename_i p q hxa hya
    rw [hxa] at hxv; rw [hya] at hyv
    obtain ⟨hfit, hz⟩ := hz
    simp only [Bool.and_eq_true] at hfit
    have tx := TV_of_val hxv
    have ty := TV_of_val hyv
    have key := eqIn_sound (P := X.P) (w := w) (D0 := 9900) 100 t sh p q _ _ hs hfit.1 hfit.2 tx ty
    have hpa : p.isAgg = true := by rw [(fits_sz hfit.1).2, ha]
    have hqa : q.isAgg = true := by rw [(fits_sz hfit.2).2, ha]
    simp only [TV, hpa] at tx
    simp only [TV, hqa] at ty
    obtain ⟨cs, ex, _⟩ := tx
    obtain ⟨ds, ey, _⟩ := ty
    have key : (Op.equal t (a.eval x') (a.eval y')).run X.P w = .ok (p.eqb q) w := key
    rw [ex, ey] at key
    rw [execOp_bin ho a.eval w (c := .bool (nb neg (p.eqb q))) (by rw [ex, ey]; exact eqGuard_agg hg) (by
      rw [ex, ey]; subst hop; cases neg <;> simp [binOp, key, Result.andThen, nb])]
    exact Out.same hr (mk_bool _ _) hz
  · exact hz.elim
end Stk
