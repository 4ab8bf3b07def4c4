/- The framework, part T: operations on rows whose elements hold memory of their own, and on maps that are ranged over. -/
import Derived.Test.YthkbahbbdacgeaaDoorZFwM
import Derived.Test.YthkbahbbdacgeaaDoorZj5
import Derived.Test.YthkbahbbdacgeaaDoorZj4
import Derived.Maps.RangeRun
set_option linter.unusedSimpArgs false
set_option linter.unusedVariables false
namespace Stk
open Go
variable {X : Cx} {Q : Ex → Fr → Hp → Prop} {e : Env} {H : Hp} {w : World}

/-! ### Pointers held against pointers -/
theorem isnil_ptr {neg : Bool} {v : AV} {c : Value} {k : AV → T} (hv : AV.val e v c) (h : sat X Q (isnilK .ptr neg v k)) : ofKind .ptr c = true ∧ sat X Q (k (.t (.bool (nb neg (isNilV c))))) := by
  unfold isnilK at h
  split at h <;> first | (rename_i heq _; cases heq; done) | (rename_i heq; cases heq; done) | skip
  · simp only [AV.val, Tr.isAgg, Tr.rel] at hv
    simp at hv; subst hv; exact ⟨rfl, by cases neg <;> exact h⟩
  · simp only [AV.val, AV.leaf] at hv
    obtain ⟨_, _, _, _, _, hc⟩ := hv
    simp at hc; subst hc; exact ⟨rfl, by cases neg <;> exact h⟩
  · simp only [AV.val, AV.leaf] at hv
    obtain ⟨_, _, _, hc, _⟩ := hv
    simp at hc; subst hc; exact ⟨rfl, by cases neg <;> exact h⟩
  all_goals exact h.elim
theorem op_eqp {op : BinOp} {neg : Bool} {t u q : TypeId} {x y : Opd} {x' y' : Operand} (hx : chkOpd X.G x x' = true) (hy : chkOpd X.G y y' = true) (hop : op = if neg then .neq else .eql) (ht : X.P.underlying t = some (.pointer q)) :
    OpS0 X (.binOp op t x' y' u) (.eqp neg x y) := by
  intro o ho e H w fr a Q k hr hf hs
  have hxv := chkOpd_val hr hf hx
  have hyv := chkOpd_val hr hf hy
  simp only [opT, evK_eq] at hs
  have key : ∀ c, ofKind .ptr c = true → ((a.eval x' = c ∧ a.eval y' = .pointer none) ∨ (a.eval y' = c ∧ a.eval x' = .pointer none)) → (execOp a.eval o).run X.P w = .ok (.value (.bool (nb neg (isNilV c)))) w := by
    intro c hc hor
    obtain ⟨e1, e2⟩ := equal_nil (kd := .ptr) ht rfl hc w
    have hg : (eqGuard op t x' y' (a.eval x') (a.eval y')).run X.P w = .ok () w := by
      rcases hor with ⟨g1, g2⟩ | ⟨g1, g2⟩ <;> rw [g1, g2] <;> unfold eqGuard <;> (subst hop; cases neg) <;> (cases c <;> simp only [ofKind, Bool.false_eq_true] at hc <;> simp)
    refine execOp_bin ho a.eval w hg ?_
    rcases hor with ⟨g1, g2⟩ | ⟨g1, g2⟩ <;> rw [g1, g2] <;> (subst hop; cases neg) <;> (cases c <;> simp only [ofKind, Bool.false_eq_true] at hc) <;>
      simp only [nilC] at e1 e2 ⊢ <;> simp [binOp, nb, e1, e2, Result.andThen]
  have nilv {c : Value} (h : AV.val e (.t .nilp) c) : c = .pointer none := by simpa [AV.val, Tr.isAgg, Tr.rel] using h
  split at hs
  · rename_i hya
    rw [hya] at hyv
    obtain ⟨h1, h2⟩ := isnil_ptr hxv hs
    rw [key _ h1 (.inl ⟨rfl, nilv hyv⟩)]
    exact Out.same hr (mk_bool _ _) h2
  · split at hs
    · rename_i hxa
      rw [hxa] at hxv
      obtain ⟨h1, h2⟩ := isnil_ptr hyv hs
      rw [key _ h1 (.inr ⟨rfl, nilv hxv⟩)]
      exact Out.same hr (mk_bool _ _) h2
    · exact hs.elim

/-! ### Ranges over maps -/
/-- An object said in another way. -/
theorem recast_step {G : Gl} (hr : Rel G e H w) {b : Nat} {o o' : AO} (hb : H[b]? = some o) (ho : o ≠ .gone) (hd : o.isDr = false) (hd' : o'.isDr = false) (hnv : ¬ o.nil)
    (hrel : ∀ blk s c n, e.β b = .at blk s c n → ∀ ob, w.heap[blk]? = some ob → o.rel e s c n ob → o'.rel e s c n ob) : Step G e H w e (H.set b o') w := by
  have hbl := lt_of_get hb
  have get : ∀ c x, (H.set b o')[c]? = some x → x ≠ .gone → (c = b ∧ x = o') ∨ (c ≠ b ∧ H[c]? = some x) := by
    intro c x hc hne
    rw [List.getElem?_set] at hc
    by_cases h1 : b = c
    · subst h1
      rw [if_pos rfl, if_pos hbl] at hc
      exact .inl ⟨rfl, (Option.some.inj hc).symm⟩
    · rw [if_neg h1] at hc; exact .inr ⟨fun h => h1 h.symm, hc⟩
  have hlb : live H b := ⟨_, hb, ho⟩
  have lv : ∀ c, live (H.set b o') c → live H c := fun c h => live_set h hlb
  refine ⟨⟨?_, ?_, ?_, ?_, ?_, ?_, ?_, hr.mem, hr.gl⟩, Env.Le.refl _ _, by simp, WLe.refl _ _, fun k ⟨c, hc, hk⟩ _ => ⟨c, lv c hc, hk⟩, fun _ _ h _ => .inl h⟩
  · intro c x hx hne blk s cp n hβ
    rcases get c x hx hne with ⟨rfl, rfl⟩ | ⟨_, h3⟩
    · obtain ⟨ob, h4, h5⟩ := hr.obj c _ hb ho blk s cp n hβ
      exact ⟨ob, h4, hrel blk s cp n hβ ob h4 h5⟩
    · exact hr.obj c x h3 hne blk s cp n hβ
  · intro c x hx hne hβ
    rcases get c x hx hne with ⟨rfl, rfl⟩ | ⟨_, h3⟩
    · exact absurd (hr.virt c _ hb ho hβ) hnv
    · exact hr.virt c x h3 hne hβ
  · intro c x hx hne
    rcases get c x hx hne with ⟨rfl, rfl⟩ | ⟨_, h3⟩
    · exact DRel.flat hd' ((hr.deep c _ hb ho).none hd)
    · exact hr.deep c x h3 hne
  · intro c hc; exact hr.bound c (by simpa using hc)
  · intro c hc; simpa using hr.dom c hc
  · intro c c' hc hc'; exact hr.injO c c' (lv c hc) (lv c' hc')
  · intro c hc; exact hr.sepO c (lv c hc)

theorem leftE_nil : ∀ {es : List (Tr × Tr)} {bs : List Nat}, bs.length = es.length → leftE #[] es bs = es
  | [], [], _ => rfl
  | [], _ :: _, h => by simp at h
  | _ :: _, [], h => by simp at h
  | p :: es, b :: bs, h => by
    have : leftE #[] (p :: es) (b :: bs) = if (#[] : Array Nat).contains b then leftE #[] es bs else p :: leftE #[] es bs := rfl
    rw [this, leftE_nil (by simpa using h)]; simp
theorem leftE_cons (seen : Array Nat) (p : Tr × Tr) (es : List (Tr × Tr)) (b : Nat) (bs : List Nat) : leftE seen (p :: es) (b :: bs) = if seen.contains b then leftE seen es bs else p :: leftE seen es bs := rfl
theorem leftE_same {seen : Array Nat} {b : Nat} : ∀ {es : List (Tr × Tr)} {bs : List Nat}, b ∉ bs → leftE (seen.push b) es bs = leftE seen es bs
  | [], bs, _ => by cases bs <;> rfl
  | _ :: _, [], _ => rfl
  | p :: es, c :: bs, h => by
    simp only [List.mem_cons, not_or] at h
    have hc : (seen.push b).contains c = seen.contains c := by simp [Ne.symm h.1]
    rw [leftE_cons, leftE_cons, hc, leftE_same h.2]
theorem leftE_push {seen : Array Nat} {b : Nat} : ∀ {es : List (Tr × Tr)} {bs : List Nat} {p : Nat} {q : Tr × Tr}, bs.Nodup → bs.length = es.length → es[p]? = some q → bs[p]? = some b → seen.contains b = false →
    ∃ j : Nat, (leftE seen es bs)[j]? = some q ∧ leftE (seen.push b) es bs = (leftE seen es bs).eraseIdx j
  | [], _, p, q, _, _, h, _, _ => by simp at h
  | _ :: _, [], p, q, _, h, _, _, _ => by simp at h
  | q0 :: es, c :: bs, p, q, hn, hl, hq, hb, hs => by
    rw [List.nodup_cons] at hn
    cases p with
    | zero =>
      simp at hq hb
      subst hq hb
      have h1 : (seen.push c).contains c = true := by simp
      refine ⟨0, ?_, ?_⟩
      · rw [leftE_cons, hs]; rfl
      · rw [leftE_cons, leftE_cons, h1, hs, if_pos rfl, leftE_same hn.1]; rfl
    | succ p =>
      simp at hq hb
      have hcb : c ≠ b := by rintro rfl; exact hn.1 (List.mem_of_getElem? hb)
      have hc : (seen.push b).contains c = seen.contains c := by simp [hcb]
      obtain ⟨j, h1, h2⟩ := leftE_push hn.2 (by simpa using hl) hq hb hs
      cases hsc : seen.contains c with
      | true => exact ⟨j, by rw [leftE_cons, hsc]; exact h1, by rw [leftE_cons, leftE_cons, hc, hsc, if_pos rfl, if_pos rfl]; exact h2⟩
      | false => exact ⟨j + 1, by rw [leftE_cons, hsc]; simpa using h1, by rw [leftE_cons, leftE_cons, hc, hsc]; simpa using h2⟩
theorem leftE_over {m : Nat → Option (List Value)} {seen : Array Nat} : ∀ {es : List (Tr × Tr)} {l : List MapEntry}, mapRel m es l → (∀ x ∈ l, seen.contains x.born = true) → leftE seen es (l.map (·.born)) = []
  | [], l, h, _ => by simp only [mapRel] at h; subst h; rfl
  | (x, v) :: r, l, h, hs => by
    obtain ⟨me, es', rfl, _, _, h⟩ := mapRel_cons.1 h
    rw [List.map_cons, leftE_cons, hs me (by simp), if_pos rfl]
    exact leftE_over h fun y hy => hs y (by simp [hy])
theorem mapRel_get {m : Nat → Option (List Value)} : ∀ {es : List (Tr × Tr)} {l : List MapEntry}, mapRel m es l → ∀ {p : Nat} {me : MapEntry}, l[p]? = some me → ∃ q : Tr × Tr, es[p]? = some q ∧ TV m q.1 me.key ∧ TV m q.2 me.val
  | [], l, h, p, me, hp => by simp only [mapRel] at h; subst h; simp at hp
  | (x, v) :: r, l, h, p, me, hp => by
    obtain ⟨me', es', rfl, h1, h2, h⟩ := mapRel_cons.1 h
    cases p with
    | zero => simp at hp; subst hp; exact ⟨_, rfl, h1, h2⟩
    | succ p => exact mapRel_get h (by simpa using hp)

theorem op_range {t kt et : TypeId} {x : Opd} {x' : Operand} (hx : chkOpd X.G x x' = true) (ht : X.P.underlying t = some (.map kt et)) : OpS X (.range t x') (.range x) := by
  intro o ho e H w fr a Q k hr hf hk
  have hxv := chkOpd_val hr hf hx
  simp only [opT, evK_eq] at hk
  split at hk
  · rename_i m hxa
    rw [hxa] at hxv
    simp only [AV.val, AV.leaf] at hxv
    obtain ⟨bm, s, c, n, hβ, hc⟩ := hxv
    have hc : a.eval x' = .map (some bm) := by simpa using hc
    obtain ⟨ob, hob, hk⟩ := sat_nthK hk
    have key : ∀ es : List (Tr × Tr), ob ≠ .gone → ob.isDr = false → ¬ ob.nil → (∀ e1 : Env, ∀ ob1 n, ob.rel e1 s c n ob1 → n = none ∧ ∃ ents clock, ob1 = .map ents clock ∧ mapRel e1.ro es ents.toList ∧ Births ents.toList clock) →
        sat X Q (newK (.iter m es es none) H fun i H1 => setK (.mapI es i) m H1 fun H2 => k (.ptr i 0 0 [] none) H2) → Out X e H w Q k ((execOp a.eval o).run X.P w) := by
      intro es hne hdr hnil hob1 hk
      obtain ⟨oo, hoo, hrel⟩ := hr.obj m _ hob hne _ _ _ _ hβ
      obtain ⟨rfl, ents, clock, rfl, hm, hbi⟩ := hob1 e oo n hrel
      have hlm := lt_of_get hob
      have hrun : (execOp a.eval o).run X.P w = .ok (.value (.pointer (some ⟨w.heap.size, 0, none⟩))) (w.alloc (.mapIter (some bm) clock #[] clock)) := by
        simp only [execOp, ho]
        refine run_v ?_
        rw [hc]
        exact run_range_map w t kt et bm ents clock ht hoo
      rw [hrun]
      rw [newK_eq] at hk
      obtain ⟨_, hk⟩ := sat_setK hk
      have hml := mapRel_length hm
      have s1 := Step.newD hr (o := .iter m es es none) (ob := .mapIter (some bm) clock #[] clock) (esz := encB (ents.toList.map (·.born))) (cap := clock) (n := none)
        ⟨rfl, bm, s, c, none, #[], ents.toList.map (·.born), by rw [Env.bind_other _ _ _ (by omega)]; exact hβ, rfl, rfl, by rw [List.length_map, hml], by
          intro x hx
          obtain ⟨me, h1, rfl⟩ := List.mem_map.1 hx
          exact hbi.2 me h1, by rw [leftE_nil (by rw [List.length_map, hml])], fun p hp => by cases hp⟩ rfl
      have hob' : (H ++ [AO.iter m es es none])[m]? = some ob := by rw [List.getElem?_append_left hlm]; exact hob
      have hβ' : (e.bind H.length (.at w.heap.size (encB (ents.toList.map (·.born))) clock none)).β m = .at bm s c none := by rw [Env.bind_other _ _ _ (by omega)]; exact hβ
      have hoo' : (w.alloc (.mapIter (some bm) clock #[] clock)).heap[bm]? = some (.map ents clock) := ((wle_alloc w _).frame bm (lt_of_heap hoo) trivial).trans hoo
      have s2 := recast_step s1.rel (o' := .mapI es H.length) hob' hne hdr rfl hnil (fun blk s' c' n' hb1 ob1 hw1 hr1 => by
        rw [hβ'] at hb1
        obtain ⟨rfl, rfl, rfl, rfl⟩ := Bind.at.inj hb1
        rw [hoo'] at hw1
        obtain rfl := Option.some.inj hw1
        obtain ⟨_, ents1, clock1, h1, h2, h3⟩ := hob1 _ _ _ hr1
        obtain ⟨rfl, rfl⟩ := Obj.map.inj h1
        exact ⟨rfl, _, _, rfl, h2, h3, _, _, Env.bind_same _ _ _⟩)
      refine ⟨_, _, _, _, _, .inl rfl, ?_, s1.trans s2, hk⟩
      simp only [AV.val, AV.leaf]
      exact ⟨_, _, _, _, Env.bind_same _ _ _, by simp⟩
    split at hk
    · rename_i es
      exact key es (by simp) rfl (by rintro ⟨_, h | h⟩ <;> cases h) (fun e1 ob1 n h => h) hk
    · rename_i es i
      exact key es (by simp) rfl (by rintro ⟨_, h | h⟩ <;> cases h) (fun e1 ob1 n h => by
        obtain ⟨h0, ents, cl, h1, h2, h3, _⟩ := h
        exact ⟨h0, ents, cl, h1, h2, h3⟩) hk
    · exact hk.elim
  · exact hk.elim

/-- What an iterator knows. -/
theorem iter_rel (hr : Rel X.G e H w) {i m : Nat} {es left es' : List (Tr × Tr)} {last : Option (Tr × Tr)} (hi : H[i]? = some (.iter m es left last)) (hm : H[m]? = some (.mapI es' i)) {c : Value} (hc : AV.val e (.ptr i 0 0 [] none) c) :
    ∃ ib bm s cp n ents clock seen ns, e.β i = .at ib (encB (ents.toList.map (·.born))) clock ns ∧ c = .pointer (some ⟨ib, 0, none⟩) ∧ e.β m = .at bm s cp n ∧ w.heap[bm]? = some (.map ents clock) ∧ w.heap[ib]? = some (.mapIter (some bm) clock seen clock) ∧
      mapRel e.ro es' ents.toList ∧ Births ents.toList clock ∧ (ents.toList.map (·.born)).length = es.length ∧ left = leftE seen es (ents.toList.map (·.born)) ∧ ns = none ∧
      (∀ p, last = some p → ∃ j : Nat, es[j]? = some p ∧ ∃ b, (ents.toList.map (·.born))[j]? = some b ∧ seen.back? = some b) := by
  simp only [AV.val, AV.leaf] at hc
  obtain ⟨ib, s1, c1, n1, hβ, hc⟩ := hc
  obtain ⟨oo, hoo, hrel⟩ := hr.obj i _ hi (by simp) _ _ _ _ hβ
  obtain ⟨h0, bm, s, cp, n', seen, bs, h1, rfl, h3, h4, h5, h6, h7⟩ := hrel
  obtain ⟨om, hom, hmr⟩ := hr.obj m _ hm (by simp) _ _ _ _ h1
  obtain ⟨g0, ents, clock, rfl, g1, g2, ib', n2, g3⟩ := hmr
  rw [hβ] at g3
  obtain ⟨rfl, rfl, rfl, rfl⟩ := Bind.at.inj g3
  have hbs := encB_inj h3
  subst hbs
  exact ⟨ib, bm, s, cp, n', ents, c1, seen, n1, hβ, by simpa using hc, h1, hom, hoo, g1, g2, h4, h6, h0, h7⟩

theorem op_next {x : Opd} {x' : Operand} (hx : chkOpd X.G x x' = true) : OpS X (.next x' false) (.next x) := by
  intro o ho e H w fr a Q k hr hf hk
  have hxv := chkOpd_val hr hf hx
  simp only [opT, evK_eq] at hk
  split at hk
  · rename_i i hxa
    rw [hxa] at hxv
    obtain ⟨ob, hob, hk⟩ := sat_nthK hk
    split at hk
    · rename_i m es left last
      obtain ⟨om, hom, hk⟩ := sat_nthK hk
      split at hk
      · rename_i es' j
        split at hk
        · rename_i hj
          have hj := beq_eq hj
          subst hj
          obtain ⟨rfl, hover, hnext⟩ := hk
          obtain ⟨ib, bm, s, cp, n, ents, clock, seen, ns, hβi, hc, hβm, hwm, hwi, hm, hbi, hl, hleft, rfl, hlast⟩ := iter_rel hr hob hom hxv
          rcases run_next_at (P := X.P) w o.type ib bm clock clock seen ents clock hwi hwm (fun x hx => hbi.2 x hx) (Nat.le_refl _) with ⟨h0, hrun⟩ | ⟨me, hme, w1, hw1, hrun⟩
          · have hrun' : (execOp a.eval o).run X.P w = .ok (.value (.tuple #[.bool false])) w := by
              simp only [execOp, ho, hc]; exact run_v hrun
            rw [hrun']
            have hl0 : left = [] := by
              rw [hleft]
              refine leftE_over hm fun x hx => ?_
              have : leftOf ents seen = #[] := Array.eq_empty_of_size_eq_zero h0
              have h2 : x ∉ (leftOf ents seen).toList := by rw [this]; simp
              simp only [leftOf, Array.toList_filter, List.mem_filter, not_and, Bool.not_eq_true', Bool.not_eq_false'] at h2
              simpa using h2 hx
            have hk := hover hl0
            obtain ⟨_, hk⟩ := sat_setK hk
            obtain ⟨_, hk⟩ := sat_setK hk
            have s1 := calm_step hr hom
            have s2 := Step.gone s1.rel j
            refine ⟨_, _, e, _, w, .inl rfl, ?_, s1.trans s2, hk⟩
            simp only [AV.val]
            exact ⟨_, rfl, by simp [AV.vals, AV.val, Tr.isAgg, Tr.rel]⟩
          · have hrun' : (execOp a.eval o).run X.P w = .ok (.value (.tuple #[.bool true, me.key, me.val])) (ChangeMaps.setBlock w1 ib (.mapIter (some bm) clock (seen.push me.born) clock)) := by
              simp only [execOp, ho, hc]; exact run_v hrun
            rw [hrun']
            have hme' : me ∈ ents.toList ∧ seen.contains me.born = false := by
              simp only [leftOf, Array.toList_filter, List.mem_filter, Bool.not_eq_true'] at hme
              exact hme
            obtain ⟨p, hp⟩ := List.getElem?_of_mem hme'.1
            obtain ⟨q, hq, hq1, hq2⟩ := mapRel_get hm hp
            obtain ⟨j, hj1, hj2⟩ := leftE_push (seen := seen) (b := me.born) hbi.1 hl hq (by rw [List.getElem?_map, hp]; rfl) hme'.2
            have hk := hnext j q (by rw [hleft]; exact hj1)
            obtain ⟨_, hk⟩ := sat_setK hk
            have hr1 : Rel X.G e H w1 := by rcases hw1 with rfl | rfl; exact hr; exact hr.drew
            have hs0 : Step X.G e H w e H w1 := by rcases hw1 with rfl | rfl; exact Step.refl hr; exact Step.drew hr
            have s1 := Step.set hr1 hob (by simp) hβi (o' := .iter m es (left.eraseIdx j) (some q)) (ob' := .mapIter (some bm) clock (seen.push me.born) clock)
              ⟨rfl, bm, s, cp, n, seen.push me.born, ents.toList.map (·.born), hβm, rfl, rfl, hl, fun x hx => by
                obtain ⟨y, h1, rfl⟩ := List.mem_map.1 hx
                exact hbi.2 y h1, by rw [hj2, hleft], fun p' hp' => by
                obtain rfl := Option.some.inj hp'
                exact ⟨p, hq, me.born, by rw [List.getElem?_map, hp]; rfl, by simp⟩⟩
            refine ⟨_, _, e, _, _, .inl rfl, ?_, hs0.trans s1, hk⟩
            simp only [AV.val]
            refine ⟨_, rfl, ?_⟩
            simp only [AV.vals]
            exact ⟨_, _, rfl, mk_bool e true, _, _, rfl, TV_val hq1, _, _, rfl, TV_val hq2, rfl⟩
        · exact hk.elim
      · exact hk.elim
    · exact hk.elim
  · exact hk.elim

theorem op_entry {x : Opd} {x' : Operand} (hx : chkOpd X.G x x' = true) : OpS0 X (.entry x') (.entry x) := by
  intro o ho e H w fr a Q k hr hf hk
  have hxv := chkOpd_val hr hf hx
  simp only [opT, evK_eq] at hk
  split at hk
  · rename_i i hxa
    rw [hxa] at hxv
    obtain ⟨ob, hob, hk⟩ := sat_nthK hk
    split at hk
    · rename_i m es left q
      obtain ⟨om, hom, hk⟩ := sat_nthK hk
      split at hk
      · rename_i es' j
        split at hk
        · rename_i hj
          have hj := beq_eq hj
          have hz := hk
          subst hj
          obtain ⟨rfl, hz2⟩ := hz
          obtain ⟨ib, bm, s, cp, n, ents, clock, seen, ns, hβi, hc, hβm, hwm, hwi, hm, hbi, hl, hleft, rfl, hlast⟩ := iter_rel hr hob hom hxv
          obtain ⟨p, hp, b, hb, hsb⟩ := hlast q rfl
          rw [List.getElem?_map] at hb
          cases hme : ents.toList[p]? with
          | none => rw [hme] at hb; cases hb
          | some me =>
            rw [hme] at hb
            obtain rfl : me.born = b := Option.some.inj hb
            obtain ⟨q', hq', hq1, hq2⟩ := mapRel_get hm hme
            rw [hp] at hq'
            obtain rfl := Option.some.inj hq'
            have hseen : seen = seen.pop.push me.born := by
              have hne : seen ≠ #[] := by rintro rfl; simp at hsb
              obtain ⟨l, rfl⟩ : ∃ l : List Nat, seen = l.toArray := ⟨seen.toList, by simp⟩
              rcases List.eq_nil_or_concat l with rfl | ⟨l', z, rfl⟩
              · simp at hne
              · simp at hsb; subst hsb; simp
            rw [hseen] at hwi
            have hrun := run_entry_at (P := X.P) w ib bm clock seen.pop ents clock me hwi hwm (List.mem_of_getElem? hme) hbi.1
            have hrun' : (execOp a.eval o).run X.P w = .ok (.value (.tuple #[me.key, me.val])) w := by
              simp only [execOp, ho, hc]; exact run_v hrun
            rw [hrun']
            refine Out.same hr ?_ hz2
            simp only [AV.val]
            refine ⟨_, rfl, ?_⟩
            simp only [AV.vals]
            exact ⟨_, _, rfl, TV_val hq1, _, _, rfl, TV_val hq2, rfl⟩
        · exact hk.elim
      · exact hk.elim
    · exact hk.elim
  · exact hk.elim

/-! ### Rows whose elements hold memory of their own -/
theorem row_cells {m : Nat → Option (List Value)} {esz : Nat} {xs : List Tr} {cs mid post : List Value} (hcs : cs = mid ++ post) (hrow : Tr.row m esz xs mid) {i : Nat} {x : Tr} (hi : xs[i]? = some x) : ∃ q, Sub cs (i * esz) q ∧ q.length = esz ∧ Tr.rel m x q := by
  obtain ⟨q, h1, h2, h3⟩ := Tr.row_get hrow hi
  have hs0 : Sub cs 0 mid := ⟨[], post, by simpa using hcs, rfl⟩
  exact ⟨q, by simpa using hs0.trans h1, h2, h3⟩

theorem cast_step {G : Gl} (hr : Rel G e H w) {b esz : Nat} {xs : List Tr} (hb : H[b]? = some (.row esz xs)) : Step G e H w e (H.set b (.dr esz (xs.map fun y => (.t y, [])) none)) w := by
  have hbl := lt_of_get hb
  have get : ∀ c x, (H.set b (.dr esz (xs.map fun y => (AV.t y, ([] : Hp))) none))[c]? = some x → x ≠ .gone → (c = b ∧ x = .dr esz (xs.map fun y => (.t y, [])) none) ∨ (c ≠ b ∧ H[c]? = some x) := by
    intro c x hc hne
    rw [List.getElem?_set] at hc
    by_cases h1 : b = c
    · subst h1
      rw [if_pos rfl, if_pos hbl] at hc
      exact .inl ⟨rfl, (Option.some.inj hc).symm⟩
    · rw [if_neg h1] at hc; exact .inr ⟨fun h => h1 h.symm, hc⟩
  have hlb : live H b := ⟨_, hb, by simp⟩
  have lv : ∀ c, live (H.set b (.dr esz (xs.map fun y => (AV.t y, ([] : Hp))) none)) c → live H c := fun c h => live_set h hlb
  have hno := (hr.deep b _ hb (by simp)).none rfl
  refine ⟨⟨?_, ?_, ?_, ?_, ?_, ?_, ?_, hr.mem, hr.gl⟩, Env.Le.refl _ _, by simp, WLe.refl _ _, fun k ⟨c, hc, hk⟩ _ => ⟨c, lv c hc, hk⟩, fun _ _ h _ => .inl h⟩
  · intro c x hx hne blk s cp n hβ
    rcases get c x hx hne with ⟨rfl, rfl⟩ | ⟨_, h3⟩
    · obtain ⟨ob, h4, h5, h6, cs, t, fz, h7, h8, h9, h10, h11, _⟩ := hr.obj c _ hb (by simp) blk s cp n hβ
      exact ⟨ob, h4, h5, by simpa using h6, cs, t, fz, h7, h8, h9, by simpa using h10, h11⟩
    · exact hr.obj c x h3 hne blk s cp n hβ
  · intro c x hx hne hβ
    rcases get c x hx hne with ⟨rfl, rfl⟩ | ⟨_, h3⟩
    · obtain ⟨es', h4 | h4⟩ := hr.virt c _ hb (by simp) hβ
      · obtain ⟨rfl, rfl⟩ := AO.row.inj h4
        exact ⟨_, .inr rfl⟩
      · cases h4
    · exact hr.virt c x h3 hne hβ
  · intro c x hx hne
    rcases get c x hx hne with ⟨rfl, rfl⟩ | ⟨_, h3⟩
    · cases hβ : e.β c with
      | no => exact absurd hβ (hr.bound c hbl)
      | virt =>
        obtain ⟨es', h4 | h4⟩ := hr.virt c _ hb (by simp) hβ
        · obtain ⟨rfl, rfl⟩ := AO.row.inj h4
          exact .inl ⟨rfl, rfl, hno⟩
        · cases h4
      | «at» blk s cp n =>
        obtain ⟨ob, h4, h5, h6, cs, t, fz, rfl, h8, h9, h10, h11, mid, post, h12, h13⟩ := hr.obj c _ hb (by simp) blk s cp n hβ
        subst h5
        refine .inr ⟨blk, _, cp, n, rfl, hno blk, fun k hk => absurd hk (hno k), cs, t, fz, h4, fun _ _ => .no, ?_, ?_, ?_, ?_⟩
        · intro i v Hs hi
          rw [List.getElem?_map] at hi
          cases hx : xs[i]? with
          | none => rw [hx] at hi; cases hi
          | some y =>
            rw [hx] at hi
            obtain ⟨rfl, rfl⟩ := Prod.mk.inj (Option.some.inj hi)
            obtain ⟨q, k1, k2, k3⟩ := row_cells h12 h13 hx
            exact ⟨q, k1, k2, fun v' h => by simp [outAt] at h, fun _ => by simp only [AV.rel, AV.leaf]; exact k3⟩
        · intro i v Hs hi _
          rw [List.getElem?_map] at hi
          cases hx : xs[i]? with
          | none => rw [hx] at hi; cases hi
          | some y =>
            rw [hx] at hi
            obtain ⟨rfl, rfl⟩ := Prod.mk.inj (Option.some.inj hi)
            exact ⟨fun j o h => by simp at h, fun j o h => by simp at h, fun j h => by simp at h, fun j h => absurd rfl h, fun j o h => by simp at h⟩
        · intro i v Hs hi _ j hl k s1 c1 n1 h; simp at h
        · intro i v Hs hi _ i' v' Hs' hi' _ j j' hl hl' k s1 c1 n1 s2 c2 n2 h; simp at h
    · exact hr.deep c x h3 hne
  · intro c hc; exact hr.bound c (by simpa using hc)
  · intro c hc; simpa using hr.dom c hc
  · intro c c' hc hc'; exact hr.injO c c' (lv c hc) (lv c' hc')
  · intro c hc; exact hr.sepO c (lv c hc)

theorem castK_sound (hr : Rel X.G e H w) {v : AV} {k : AV → Hp → T} (h : sat X Q (castK k v H)) : ∃ H', sat X Q (k v H') ∧ Step X.G e H w e H' w := by
  unfold castK at h
  split at h
  · rename_i b o p off len cap
    obtain ⟨ob, hob, h⟩ := sat_nthK h
    split at h
    · rename_i es xs
      split at h
      · obtain ⟨_, h⟩ := sat_setK h
        exact ⟨_, h, cast_step hr hob⟩
      · exact h.elim
    · exact h.elim
  · exact h.elim
theorem Out.cast (hr : Rel X.G e H w) {k : AV → Hp → T} {r : Result Next} (h : Out X e H w Q (castK k) r) : Out X e H w Q k r := by
  obtain ⟨v, c, e', H', w', h1, h2, h3, h4⟩ := h
  obtain ⟨H2, h5, h6⟩ := castK_sound h3.rel h4
  exact ⟨v, c, e', H2, w', h1, h2, h3.trans h6, h5⟩
theorem op_nslD {esz : Nat} {op : Op} (hop : op = .move (.const (.slice none 0 0)) ∨ op = .assign (.const (.slice none 0 0))) : OpS X op (.nslD esz) := by
  intro o ho e H w fr a Q k hr hf hs
  exact Out.cast hr (op_nsl (X := X) (esz := esz) hop o ho e H w fr a Q (castK k) hr hf hs)
theorem op_mkSlD {t el : TypeId} {len sz : Nat} {ps : List Pc} {parts : Array (Nat × Operand)} {zs : List Value} (ht : X.P.underlying t = some (.slice el)) (hi : (X.P.info? el).map (·.size) = some sz) (hz : zeroCellsOf X.P el = some zs)
    (hzl : zs.length = sz) (hpl : ps.length = len) (hmx : len * sz ≤ 2 ^ 24) (hc : chkPcs X.G (fun i => some (i * sz, sz)) 0 ps parts.toList (repCells len zs) = true) : OpS X (.buildSlice t len parts) (.mkSlD sz ps) := by
  intro o ho e H w fr a Q k hr hf hs
  exact Out.cast hr (op_mkSl (X := X) ht hi hz hzl hpl hmx hc o ho e H w fr a Q (castK k) hr hf hs)

def shR (N : Nat) (j b : Nat) : Prop := b = N + j
theorem shiftN_ok (N : Nat) : FnOK X Q (shiftN N) (shR N) := by
  intro b no k h
  unfold shiftN at h
  rw [litK_eq] at h
  exact .inr ⟨N + b, rfl, h⟩
theorem shiftK_sound {N : Nat} : ∀ {Hs : Hp} {k : Hp → T}, sat X Q (shiftK N Hs k) → ∃ Hs', sat X Q (k Hs') ∧ Hs'.length = Hs.length ∧ ∀ (j : Nat) (o' : AO), Hs'[j]? = some o' → ∃ o, Hs[j]? = some o ∧ RenO (shR N) o o'
  | [], k, h => ⟨[], h, rfl, fun j o' hj => by simp at hj⟩
  | o :: os, k, h => by
    simp only [shiftK] at h
    obtain ⟨o', ho', h⟩ := renOK_sound (shiftN_ok N) h
    obtain ⟨Hs', h, h1, h2⟩ := shiftK_sound h
    refine ⟨o' :: Hs', h, by simp [h1], fun j x hx => ?_⟩
    cases j with
    | zero => simp at hx; subst hx; exact ⟨o, rfl, ho'⟩
    | succ j => exact h2 j x (by simpa using hx)
theorem catK_eq : ∀ (xs ys : Hp) (k : Hp → T), catK xs ys k = k (xs ++ ys)
  | [], ys, k => rfl
  | x :: xs, ys, k => by simp only [catK, catK_eq xs ys]; rfl

/-- An element comes out: the environment behind it. -/
def Env.open (e : Env) (N b : Nat) (ε : Nat → Bind) (D : Nat → Prop) : Env :=
  ⟨fun c => if c < N then e.β c else ε (c - N), e.ro, e.bo, fun c k => if c < N then (if c = b then D k else e.σ c k) else False⟩

theorem open_step {G : Gl} (hr : Rel G e H w) {b esz : Nat} {ms : List (AV × Hp)} {i : Nat} {v0 v : AV} {Hs Hs' : Hp} (hb : H[b]? = some (.dr esz ms none)) (hi : ms[i]? = some (v0, Hs)) (hrv : RenV (shR H.length) v0 v)
    (l1 : Hs'.length = Hs.length) (g1 : ∀ (j : Nat) (o' : AO), Hs'[j]? = some o' → ∃ o, Hs[j]? = some o ∧ RenO (shR H.length) o o') :
    ∃ e' blk s c n cs t fz mid, Step G e H w e' (H.set b (.dr esz ms (some (i, v))) ++ Hs') w ∧ e.β b = .at blk s c n ∧ w.heap[blk]? = some (.cells cs t fz) ∧ Sub cs.toList (i * esz) mid ∧ mid.length = esz ∧ AV.rel e' v mid := by
  have hbl := lt_of_get hb
  have hlb : live H b := ⟨_, hb, by simp⟩
  rcases hr.deep b _ hb (by simp) with ⟨_, h2, _⟩ | ⟨blk, s, cp, n, h1, h2, h3, cs, t, fz, h4, ε, h5⟩
  · subst h2; simp at hi
  have hn : outAt (none : Option (Nat × AV)) i = none := rfl
  obtain ⟨mid, q1, q2, _, q4⟩ := h5.cell i v0 Hs hi
  have q4 := q4 hn
  have hM := h5.mem i v0 Hs hi hn
  let D : Nat → Prop := fun k => e.σ b k ∧ ¬ ∃ j, live Hs j ∧ ∃ s c n, ε i j = .at k s c n
  let e' := e.open H.length b (ε i) D
  have βo : ∀ c, c < H.length → e'.β c = e.β c := fun c hc => by show (if c < H.length then _ else _) = _; rw [if_pos hc]
  have βn : ∀ j, e'.β (H.length + j) = ε i j := fun j => by show (if H.length + j < H.length then _ else ε i (H.length + j - H.length)) = _; rw [if_neg (by omega), Nat.add_sub_cancel_left]
  have σb : e'.σ b = D := by funext k; show (if b < H.length then (if b = b then D k else _) else False) = _; rw [if_pos hbl, if_pos rfl]
  have σo : ∀ c, c < H.length → c ≠ b → e'.σ c = e.σ c := fun c hc hcb => by funext k; show (if c < H.length then (if c = b then D k else _) else False) = _; rw [if_pos hc, if_neg hcb]
  have σn : ∀ c, ¬ c < H.length → ∀ k, ¬ e'.σ c k := fun c hc k h => by
    have h : (if c < H.length then (if c = b then D k else e.σ c k) else False) := h
    rw [if_neg hc] at h; exact h
  have hto : Env.To id e e' := ⟨fun c hc => βo c (hr.dom c hc), MemLe.refl _, fun _ _ h => h⟩
  have hren : Ren (shR H.length) (subE e (ε i)) e' := ⟨fun j c hR _ => by rw [show c = H.length + j from hR]; exact βn j, MemLe.refl _⟩
  have hholds : Holds (subE e (ε i)) e' := fun k m h => h.imp id (fun h => by cases h)
  have own : ∀ c k, c < H.length → Own1 e' c k → Own1 e c k := by
    rintro c k hc (h | h)
    · rw [βo c hc] at h; exact .inl h
    · by_cases hcb : c = b
      · subst hcb; rw [σb] at h; exact .inr h.1
      · rw [σo c hc hcb] at h; exact .inr h
  have ownn : ∀ j k, j < Hs.length → Own1 e' (H.length + j) k → ∃ s c n, ε i j = .at k s c n := by
    rintro j k hj (h | h)
    · rw [βn j] at h; exact h
    · exact absurd h (σn _ (by omega) k)
  have get : ∀ c x, (H.set b (.dr esz ms (some (i, v))) ++ Hs')[c]? = some x → x ≠ .gone → (c = b ∧ x = .dr esz ms (some (i, v))) ∨ (c < H.length ∧ c ≠ b ∧ H[c]? = some x) ∨ ∃ j o, c = H.length + j ∧ Hs[j]? = some o ∧ RenO (shR H.length) o x ∧ o.flat = true := by
    intro c x hc hne
    by_cases hlt : c < H.length
    · rw [List.getElem?_append_left (by simpa using hlt), List.getElem?_set] at hc
      by_cases h1 : b = c
      · subst h1
        rw [if_pos rfl, if_pos hbl] at hc
        exact .inl ⟨rfl, (Option.some.inj hc).symm⟩
      · rw [if_neg h1] at hc; exact .inr (.inl ⟨hlt, fun h => h1 h.symm, hc⟩)
    · rw [List.getElem?_append_right (by simp; omega), List.length_set] at hc
      obtain ⟨o, h1, h2⟩ := g1 _ _ hc
      exact .inr (.inr ⟨c - H.length, o, by omega, h1, h2, hM.flat _ _ h1⟩)
  have lv : ∀ c, live (H.set b (.dr esz ms (some (i, v))) ++ Hs') c → (c < H.length ∧ live H c) ∨ ∃ j, c = H.length + j ∧ live Hs j := by
    rintro c ⟨x, hx, hne⟩
    rcases get c x hx hne with ⟨rfl, _⟩ | ⟨h1, _, h2⟩ | ⟨j, o, rfl, h1, h2, h3⟩
    · exact .inl ⟨hbl, hlb⟩
    · exact .inl ⟨h1, x, h2, hne⟩
    · exact .inr ⟨j, rfl, o, h1, (AO.flat_dr h3).2⟩
  have hDk : ∀ j k, live Hs j → (∃ s c n, ε i j = .at k s c n) → e.σ b k := fun j k hl ⟨s1, c1, n1, h⟩ => h5.own i v0 Hs hi hn j hl k s1 c1 n1 h
  have ltj : ∀ j, live Hs j → j < Hs.length := fun j ⟨o, ho, _⟩ => lt_of_get ho
  refine ⟨e', blk, s, cp, n, cs, t, fz, mid, ⟨⟨?_, ?_, ?_, ?_, ?_, ?_, ?_, hr.mem, hr.gl⟩, ⟨βo, MemLe.refl _, rfl⟩, by simp, WLe.refl _ _, ?_, fun _ _ h _ => .inl h⟩, h1, h4, q1, q2, (hrv _ _ hren (.inl hholds)).1 _ q4⟩
  · intro c x hx hne blk' s' cp' n' hβ
    rcases get c x hx hne with ⟨rfl, rfl⟩ | ⟨k1, k2, k3⟩ | ⟨j, o, rfl, k1, k2, k3⟩
    · rw [βo c hbl] at hβ
      obtain ⟨ob, k4, k5⟩ := hr.obj c _ hb (by simp) blk' s' cp' n' hβ
      exact ⟨ob, k4, k5⟩
    · rw [βo c k1] at hβ
      obtain ⟨ob, k4, k5⟩ := hr.obj c x k3 hne blk' s' cp' n' hβ
      exact ⟨ob, k4, AO.rel_to hto k5⟩
    · rw [βn j] at hβ
      obtain ⟨ob, k4, k5⟩ := hM.obj j o k1 (AO.flat_dr k3).2 blk' s' cp' n' hβ
      exact ⟨ob, k4, k2.rel hren (.inl hholds) k5⟩
  · intro c x hx hne hβ
    rcases get c x hx hne with ⟨rfl, rfl⟩ | ⟨k1, k2, k3⟩ | ⟨j, o, rfl, k1, k2, k3⟩
    · rw [βo c hbl, h1] at hβ; cases hβ
    · rw [βo c k1] at hβ; exact hr.virt c x k3 hne hβ
    · rw [βn j] at hβ; exact k2.nil (hM.virt j o k1 (AO.flat_dr k3).2 hβ)
  · intro c x hx hne
    rcases get c x hx hne with ⟨rfl, rfl⟩ | ⟨k1, k2, k3⟩ | ⟨j, o, rfl, k1, k2, k3⟩
    · rw [βo c hbl, σb]
      refine .inr ⟨blk, s, cp, n, h1, fun h => h2 h.1, fun k hk => h3 k hk.1, cs, t, fz, h4, ε, ?_, ?_, ?_, ?_⟩
      · intro j u Us hj
        obtain ⟨m1, r1, r2, _, r4⟩ := h5.cell j u Us hj
        refine ⟨m1, r1, r2, fun v' hv' => ?_, fun _ => AV.rel_to (subE_to (MemLe.refl _) (ε j)) (r4 rfl)⟩
        have hij : i = j := by
          simp only [outAt] at hv'
          split at hv'
          · assumption
          · cases hv'
        subst hij
        rw [outAt_self] at hv'
        obtain rfl := Option.some.inj hv'
        have : m1 = mid := by
          have e1 := r1.eq; have e2 := q1.eq
          rw [r2] at e1; rw [q2] at e2
          rw [← e1, ← e2]
        rw [this]
        exact (hrv _ _ hren (.inl hholds)).1 _ q4
      · intro j u Us hj _; exact (h5.mem j u Us hj rfl).mono (MemLe.refl _)
      · intro j u Us hj ho j' hl k s1 c1 n1 h
        refine ⟨h5.own j u Us hj rfl j' hl k s1 c1 n1 h, ?_⟩
        rintro ⟨j2, hl2, s2, c2, n2, h2⟩
        have := (h5.dis j u Us hj rfl i v0 Hs hi hn j' j2 hl hl2 k s1 c1 n1 s2 c2 n2 h h2).1
        subst this
        rw [outAt_self] at ho; cases ho
      · intro j u Us hj _ j2 u2 Us2 hj2 _; exact h5.dis j u Us hj rfl j2 u2 Us2 hj2 rfl
    · rw [βo c k1, σo c k1 k2]; exact (hr.deep c x k3 hne).to hto
    · refine DRel.flat ?_ (σn _ (by omega))
      exact (AO.flat_dr (k2.flat k3)).1
  · intro c hc
    rw [List.length_append, List.length_set, l1] at hc
    by_cases hlt : c < H.length
    · rw [βo c hlt]; exact hr.bound c hlt
    · have := hM.bound (c - H.length) (by omega)
      rw [show c = H.length + (c - H.length) by omega, βn]; exact this
  · intro c hc
    rw [List.length_append, List.length_set, l1]
    by_cases hlt : c < H.length
    · omega
    · rw [show c = H.length + (c - H.length) by omega, βn] at hc
      have := hM.dom (c - H.length) hc
      omega
  · intro c c' hc hc' k hk hk'
    rcases lv c hc with ⟨k1, k2⟩ | ⟨j, rfl, k2⟩ <;> rcases lv c' hc' with ⟨g1, g2⟩ | ⟨j', rfl, g2⟩
    · exact hr.injO c c' k2 g2 k (own c k k1 hk) (own c' k g1 hk')
    · exfalso
      have hx := ownn j' k (ltj j' g2) hk'
      have hb' : c = b := hr.injO c b k2 hlb k (own c k k1 hk) (.inr (hDk j' k g2 hx))
      subst hb'
      rcases hk with hk | hk
      · rw [βo c k1, h1] at hk
        obtain ⟨s1, c1, n1, hk⟩ := hk
        obtain ⟨rfl, _⟩ := Bind.at.inj hk
        exact h2 (hDk j' _ g2 hx)
      · rw [σb] at hk; exact hk.2 ⟨j', g2, hx⟩
    · exfalso
      have hx := ownn j k (ltj j k2) hk
      have hb' : c' = b := hr.injO c' b g2 hlb k (own c' k g1 hk') (.inr (hDk j k k2 hx))
      subst hb'
      rcases hk' with hk' | hk'
      · rw [βo c' g1, h1] at hk'
        obtain ⟨s1, c1, n1, hk'⟩ := hk'
        obtain ⟨rfl, _⟩ := Bind.at.inj hk'
        exact h2 (hDk j _ k2 hx)
      · rw [σb] at hk'; exact hk'.2 ⟨j, k2, hx⟩
    · obtain ⟨s1, c1, n1, hx⟩ := ownn j k (ltj j k2) hk
      obtain ⟨s2, c2, n2, hx'⟩ := ownn j' k (ltj j' g2) hk'
      have := (h5.dis i v0 Hs hi hn i v0 Hs hi hn j j' k2 g2 k s1 c1 n1 s2 c2 n2 hx hx').2
      rw [this]
  · intro c hc k hk
    rcases lv c hc with ⟨k1, k2⟩ | ⟨j, rfl, k2⟩
    · exact hr.sepO c k2 k (own c k k1 hk)
    · exact hr.sepO b hlb k (.inr (hDk j k k2 (ownn j k (ltj j k2) hk)))
  · rintro k ⟨c, hc, hk⟩ _
    rcases lv c hc with ⟨k1, k2⟩ | ⟨j, rfl, k2⟩
    · exact ⟨c, k2, own c k k1 hk⟩
    · exact ⟨b, hlb, .inr (hDk j k k2 (ownn j k (ltj j k2) hk))⟩

theorem op_loadD {x : Opd} {x' : Operand} {t : TypeId} {agg : Bool} {n : Nat} (hx : chkOpd X.G x x' = true) (ht : tyOK X.P t agg n = true) : OpS X (.load t x') (.loadD agg n x) := by
  intro o ho e H w fr a Q k hr hf hs
  have hxv := chkOpd_val hr hf hx
  simp only [opT, evK_eq] at hs
  split at hs
  · rename_i b i hxa
    rw [hxa] at hxv
    obtain ⟨e1, H1, hs, s1, _, hβ1, _, _⟩ := closeK_sound hr hs
    obtain ⟨ob, hob, hs⟩ := sat_nthK hs
    split at hs
    · rename_i esz ms
      split at hs
      · rename_i hes
        have hes := beq_eq hes
        have hz := hs
        subst hes
        obtain ⟨v0, Hs, hi, hs⟩ := hz
        simp only [litK_eq] at hs
        obtain ⟨v, hrv, hs⟩ := renK_sound (shiftN_ok _) hs
        obtain ⟨Hs', hs, l1, g1⟩ := shiftK_sound hs
        obtain ⟨_, hs⟩ := sat_setK hs
        rw [catK_eq] at hs
        obtain ⟨e2, blk, s, c, n1, cs, t', fz, mid, s2, hβ, hw, hsub, hml, hv⟩ := open_step s1.rel hob hi hrv l1 g1
        simp only [AV.val, AV.leaf] at hxv
        obtain ⟨blk', s', c', n', hβ', hc⟩ := hxv
        rw [← hβ1, hβ] at hβ'
        obtain ⟨rfl, rfl, rfl, rfl⟩ := Bind.at.inj hβ'
        obtain ⟨ob1, hw1, hrel1⟩ := s1.rel.obj b _ hob (by simp) _ _ _ _ hβ
        obtain ⟨rfl, _⟩ := hrel1
        have hc : a.eval x' = .pointer (some ⟨blk, i * esz, none⟩) := by simpa using hc
        have hsz : v.sz = esz := by rw [← (AV.rel_length hv).1, hml]
        have run (cv : Value) (h : (loadVar t ⟨blk, i * esz, none⟩).run X.P w = .ok cv w) : (execOp a.eval o).run X.P w = .ok (.value cv) w := by
          simp only [execOp, ho]
          refine run_v ?_
          simp only [Instr.loadAt, hc, Instr.sureAddr, pure_bind]
          exact h
        rcases AV.val_of_rel hv with ⟨ha, hval⟩ | ⟨ha, c', rfl, hval⟩
        · rw [ha] at hs
          cases agg with
          | false => exact hs.elim
          | true =>
            rw [run _ (run_loadVar_agg ht hw hsub hml)]
            exact ⟨_, _, _, _, _, .inl rfl, hval, s1.trans s2, hs⟩
        · rw [ha] at hs
          cases agg with
          | true => exact hs.elim
          | false =>
            simp at hml; subst hml
            rw [run c' (run_loadVar_one ht hw (by have := hsub.get (j := 0) rfl; simpa using this))]
            exact ⟨_, _, _, _, _, .inl rfl, hval, s1.trans s2, hs⟩
      · exact hs.elim
    · exact hs.elim
  · exact hs.elim

theorem sub_over_ne {cs vs mid : List Value} {i j esz : Nat} (h : Sub cs (j * esz) mid) (hm : mid.length = esz) (hv : vs.length = esz) (hij : j ≠ i) (hl : i * esz + esz ≤ cs.length) : Sub (over cs (i * esz) vs) (j * esz) mid := by
  have hl1 := h.len
  rw [hm] at hl1
  have hol : (over cs (i * esz) vs).length = cs.length := over_length _ _ _ (by rw [hv]; exact hl)
  refine ⟨(over cs (i * esz) vs).take (j * esz), (over cs (i * esz) vs).drop (j * esz + esz), ?_, by rw [List.length_take, hol]; omega⟩
  have hmid : ((over cs (i * esz) vs).drop (j * esz)).take esz = mid := by
    have he := h.eq
    rw [hm] at he
    rw [← he]
    rcases Nat.lt_or_ge j i with h1 | h1
    · have : j * esz + esz ≤ i * esz := by rw [← Nat.succ_mul]; exact Nat.mul_le_mul_right _ h1
      simp only [over, List.append_assoc]
      rw [List.drop_append_of_le_length (by rw [List.length_take]; omega), List.take_append_of_le_length (by rw [List.length_drop, List.length_take]; omega), List.drop_take, List.take_take]
      congr 1; omega
    · have : i * esz + esz ≤ j * esz := by rw [← Nat.succ_mul]; exact Nat.mul_le_mul_right _ (by omega)
      simp only [over]
      rw [List.drop_append]
      have hle : (cs.take (i * esz) ++ vs).length = i * esz + esz := by rw [List.length_append, List.length_take, hv]; omega
      rw [List.drop_eq_nil_of_le (by omega), List.nil_append, hle, List.drop_drop, hv]
      congr 2; omega
  rw [← hmid, ← List.append_assoc]
  have h1 : (over cs (i * esz) vs).take (j * esz) ++ ((over cs (i * esz) vs).drop (j * esz)).take esz = (over cs (i * esz) vs).take (j * esz + esz) := by rw [← List.take_add]
  rw [h1, List.take_append_drop]
theorem sub_over_eq {cs vs : List Value} {o : Nat} (hl : o + vs.length ≤ cs.length) : Sub (over cs o vs) o vs :=
  ⟨cs.take o, cs.drop (o + vs.length), by simp [over], by rw [List.length_take]; omega⟩
theorem ones_over {cs vs : List Value} {o : Nat} (h : Ones cs) (h' : Ones vs) : Ones (over cs o vs) := by
  intro c hc
  simp only [over, List.mem_append] at hc
  rcases hc with (hc | hc) | hc
  · exact h c (List.mem_of_mem_take hc)
  · exact h' c hc
  · exact h c (List.mem_of_mem_drop hc)

theorem op_storeD {x y : Opd} {x' y' : Operand} {t : TypeId} {n : Nat} (hx : chkOpd X.G x x' = true) (hy : chkOpd X.G y y' = true) (ht : (X.P.info? t).map (·.size) = some n) : OpS X (.store t x' y') (.storeD n x y) := by
  intro o ho e H w fr a Q k hr hf hs
  have hxv := chkOpd_val hr hf hx
  have hyv := chkOpd_val hr hf hy
  simp only [opT, evK_eq] at hs
  obtain ⟨hsol, hs⟩ := sat_solid hs
  have hyr := solid_rel hyv hsol
  split at hs
  · rename_i b i hxa
    rw [hxa] at hxv
    obtain ⟨e1, H1, hs, s1, _, hβ1, _, _⟩ := closeK_sound hr hs
    have hyr := AV.rel_to (s1.to hr) hyr
    obtain ⟨ob, hob, hs⟩ := sat_nthK hs
    split at hs
    · rename_i esz ms
      split at hs
      · rename_i hes hvs
        have hes := beq_eq hes
        have hvs := beq_eq hvs
        have hz := hs
        subst hes
        obtain ⟨hi, hs⟩ := hz
        have hi := of_decide_eq_true hi
        obtain ⟨_, hs⟩ := sat_setK hs
        simp only [AV.val, AV.leaf] at hxv
        obtain ⟨blk, s, c, n1, hβ, hc⟩ := hxv
        rw [← hβ1] at hβ
        have hlb : live H1 b := ⟨_, hob, by simp⟩
        obtain ⟨ob1, hw1, hrel1⟩ := s1.rel.obj b _ hob (by simp) _ _ _ _ hβ
        obtain ⟨rfl, hn1, cs, t', fz, rfl, hfz, hcz, hmc, hones⟩ := hrel1
        have hc : a.eval x' = .pointer (some ⟨blk, i * esz, none⟩) := by simpa using hc
        rcases s1.rel.deep b _ hob (by simp) with ⟨_, h2, _⟩ | ⟨blk', s', cp', n', h1, h2, h3, cs', t2, fz2, h4, ε, h5⟩
        · subst h2; simp at hi
        rw [hβ] at h1
        obtain ⟨rfl, rfl, rfl, rfl⟩ := Bind.at.inj h1
        rw [hw1] at h4
        obtain ⟨rfl, rfl, rfl⟩ := Obj.cells.inj (Option.some.inj h4)
        obtain ⟨hvl, hvo⟩ := AV.rel_length hyr
        rw [hvs] at hvl
        have hfit : i * esz + esz ≤ cs.toList.length := by
          rw [Array.length_toList, hcz, ← Nat.succ_mul]; exact Nat.mul_le_mul_right _ (by omega)
        have hol : (over cs.toList (i * esz) (a.eval y').cells.toList).length = cs.toList.length := over_length _ _ _ (by rw [hvl]; exact hfit)
        obtain ⟨m0, r1, r2, _, _⟩ := h5.cell i ms[i].1 ms[i].2 (by simp [hi])
        have hrun : (execOp a.eval o).run X.P w = .ok .skip (World.setBlk w blk (.cells (over cs.toList (i * esz) (a.eval y').cells.toList).toArray t' fz)) := by
          simp only [execOp, ho]
          refine run_u ?_
          simp only [Instr.storeAt, hc, Instr.sureAddr, pure_bind]
          exact store_run ht hw1 hfz r1 r2 (by rw [← hvl]; simp) hvo
        rw [hrun]
        have hst := Step.setD s1.rel hob (by simp) hβ (o' := .dr esz ms (some (i, y.at fr))) (ob' := .cells (over cs.toList (i * esz) (a.eval y').cells.toList).toArray t' fz)
          ⟨rfl, hn1, _, t', fz, rfl, by rw [List.size_toArray, hol]; simpa using hfz, by rw [List.size_toArray, hol]; simpa using hcz, hmc, ones_over hones hvo⟩ (fun _ => by
            refine .inr ⟨blk, esz, c, n1, hβ, h2, fun k hk => by rw [setBlk_size]; exact h3 k hk, _, t', fz, by rw [setBlk_get, if_pos ⟨rfl, lt_of_heap hw1⟩], ε, ?_, ?_, ?_, ?_⟩
            · intro j u Us hj
              obtain ⟨m1, q1, q2, _, q4⟩ := h5.cell j u Us hj
              by_cases hji : j = i
              · subst hji
                exact ⟨_, sub_over_eq (by rw [hvl]; exact hfit), hvl, fun v' hv' => by
                  rw [outAt_self] at hv'
                  obtain rfl := Option.some.inj hv'
                  exact hyr, fun h => by rw [outAt_self] at h; cases h⟩
              · exact ⟨m1, sub_over_ne q1 q2 hvl hji hfit, q2, fun v' hv' => (by rw [outAt_ne _ hji] at hv'; cases hv'), fun _ => q4 rfl⟩
            · intro j u Us hj _
              refine (h5.mem j u Us hj rfl).frame fun k ob1 g1 ⟨j', hl, s1', c1', n1', g2⟩ => ?_
              have := h5.own j u Us hj rfl j' hl k s1' c1' n1' g2
              rw [setBlk_get, if_neg]
              · exact g1
              · rintro ⟨rfl, _⟩; exact h2 this
            · intro j u Us hj _; exact h5.own j u Us hj rfl
            · intro j u Us hj _ j2 u2 Us2 hj2 _; exact h5.dis j u Us hj rfl j2 u2 Us2 hj2 rfl)
        exact ⟨_, _, _, _, _, .inr ⟨rfl, rfl⟩, by simp [AV.val], s1.trans hst, hs⟩
      · exact hs.elim
    · exact hs.elim
  · exact hs.elim

theorem sub_same {cs cs' mid : List Value} {o n : Nat} (h : Sub cs o mid) (hn : o + mid.length ≤ n) (e : cs'.take n = cs.take n) (hl : n ≤ cs.length) : Sub cs' o mid := by
  obtain ⟨p, q, rfl, rfl⟩ := h
  refine ⟨p, cs'.drop (p.length + mid.length), ?_, rfl⟩
  have h1 : cs'.take (p.length + mid.length) = p ++ mid := by
    have := congrArg (List.take (p.length + mid.length)) e
    rw [List.take_take, List.take_take, Nat.min_eq_left hn] at this
    rw [this, ← List.append_assoc, List.take_append_of_le_length (by simp), List.take_of_length_le (by simp)]
  rw [← List.append_assoc, ← h1, List.take_append_drop]

theorem Mems.snoc {e : Env} {D : Nat → Prop} {esz : Nat} {ms : List (AV × Hp)} {cs cs' news : List Value} {ε : Nat → Nat → Bind} {w w' : World} {v : AV} (hm : Mems e D esz ms none cs ε w)
    (hk : ∀ k ob, w.heap[k]? = some ob → D k → w'.heap[k]? = some ob) (hc : cs'.take (ms.length * esz) = cs.take (ms.length * esz)) (hl : ms.length * esz ≤ cs.length) (hs : Sub cs' (ms.length * esz) news) (hn : news.length = esz) (hv : AV.rel e v news) :
    Mems e D esz (ms ++ [(.undef, [])]) (some (ms.length, v)) cs' ε w' := by
  have get : ∀ i u Us, (ms ++ [((AV.undef, []) : AV × Hp)])[i]? = some (u, Us) → ms[i]? = some (u, Us) ∨ i = ms.length := by
    intro i u Us h
    by_cases hi : i < ms.length
    · rw [List.getElem?_append_left hi] at h; exact .inl h
    · rw [List.getElem?_append_right (by omega)] at h
      have := lt_of_get h
      simp at this
      exact .inr (by omega)
  have old : ∀ i u Us, (ms ++ [((AV.undef, []) : AV × Hp)])[i]? = some (u, Us) → outAt (some (ms.length, v)) i = none → ms[i]? = some (u, Us) := by
    intro i u Us h ho
    rcases get i u Us h with h1 | rfl
    · exact h1
    · rw [outAt_self] at ho; cases ho
  refine ⟨?_, ?_, ?_, ?_⟩
  · intro i u Us h
    rcases get i u Us h with h1 | rfl
    · obtain ⟨mid, q1, q2, _, q4⟩ := hm.cell i u Us h1
      have hi := lt_of_get h1
      have hne : i ≠ ms.length := by omega
      refine ⟨mid, sub_same q1 (by rw [q2, ← Nat.succ_mul]; exact Nat.mul_le_mul_right _ hi) hc hl, q2, fun v' hv' => (by rw [outAt_ne _ hne] at hv'; cases hv'), fun _ => q4 rfl⟩
    · exact ⟨news, hs, hn, fun v' hv' => by
        rw [outAt_self] at hv'
        obtain rfl := Option.some.inj hv'
        exact hv, fun h => by rw [outAt_self] at h; cases h⟩
  · intro i u Us h ho
    have h1 := old i u Us h ho
    exact (hm.mem i u Us h1 rfl).frame fun k ob g1 ⟨j, hl, s1, c1, n1, g2⟩ => hk k ob g1 (hm.own i u Us h1 rfl j hl k s1 c1 n1 g2)
  · intro i u Us h ho; exact hm.own i u Us (old i u Us h ho) rfl
  · intro i u Us h ho i2 u2 Us2 h2 ho2; exact hm.dis i u Us (old i u Us h ho) rfl i2 u2 Us2 (old i2 u2 Us2 h2 ho2) rfl
theorem Mems.nil {e : Env} {D : Nat → Prop} {esz : Nat} {cs : List Value} {ε : Nat → Nat → Bind} {w : World} : Mems e D esz [] none cs ε w :=
  ⟨fun i u Us h => by simp at h, fun i u Us h => by simp at h, fun i u Us h => by simp at h, fun i u Us h => by simp at h⟩

/-- One element put behind a row, in a new block. -/
theorem growD (hr : Rel X.G e H w) {t tx ty el : TypeId} {esz bytes : Nat} (hT : AppTy X.P t tx el esz bytes) {b : Nat} {base : Option Addr} {sLen sCap : Nat} {ms : List (AV × Hp)} {olds news : List Value} {c : Value} {v : AV} {ε : Nat → Nat → Bind} {cs : List Value}
    (hb : H[b]? = some (.dr esz ms none)) (hlt : ∀ k, e.σ b k → k < w.heap.size) (hM : Mems e (e.σ b) esz ms none cs ε w) (hcl : ms.length * esz ≤ cs.length) (hoc : olds = cs.take (ms.length * esz)) (hones : Ones cs)
    (hold : (Builtin.firstCells esz sLen (.slice base sLen sCap)).run X.P w.drew = .ok olds.toArray w.drew) (hlen : ms.length = sLen) (hv : AV.rel e v news) (hnl : news.length = esz)
    (hsrc : Go.Src X.P esz tx c 1 news w) (hg : sCap < sLen + 1) (hroom : roomy (sLen + 1) bytes = true) :
    ∃ cv w' e', (Builtin.append_ #[t, tx] ty #[.slice base sLen sCap, c]).run X.P w = .ok cv w' ∧
      Step X.G e H w e' (H.set b .gone ++ [.dr esz (ms ++ [(.undef, [])]) (some (ms.length, v))]) w' ∧ AV.val e' (.sl H.length 0 [] 0 (ms.length + 1) none) cv := by
  obtain ⟨i, z, hi, hsz, hby, hz, hzs, hzo⟩ := hT.info
  obtain ⟨r1, r2⟩ := roomy_spec hroom
  have hfit : Builtin.nextslicecap (sLen + 1) sCap * i.bytes ≤ 281474976710656 := by
    have := nextslicecap_le hg
    rw [hby]
    exact Nat.le_trans (Nat.mul_le_mul_right bytes this) r1
  subst hsz
  have hrun := run_append_grow_src w t tx ty el i z hT.ht hi hz base sLen sCap olds hold c 1 news hsrc hg (by omega) hfit
  have hcap := grownCap_ge w (sLen + 1) sCap el
  have hol : olds.length = ms.length * i.size := by rw [hoc, List.length_take]; omega
  let cs' : Array Value := (olds ++ news).toArray ++ Builtin.zeroCells z.cells (grownCap w (sLen + 1) sCap el - (sLen + 1))
  have hcs' : cs'.toList = olds ++ (news ++ (Builtin.zeroCells z.cells (grownCap w (sLen + 1) sCap el - (sLen + 1))).toList) := by simp [cs']
  have hd := Step.drew hr
  have hgn := Step.gone hd.rel b
  have hlb : live H b := ⟨_, hb, by simp⟩
  have hw := wle_alloc w.drew (.cells cs' el)
  let D := e.σ b
  let e' := e.bindD (H.set b .gone).length (.at w.heap.size i.size (grownCap w (sLen + 1) sCap el) (some (ms ++ [((AV.undef, []) : AV × Hp)]).length)) D
  have hle : Env.Le (H.set b .gone).length e e' := e.bindD_le _ _ _
  have hv' : AV.rel e' v news := AV.rel_to (hle.to hgn.rel.dom) hv
  have hN : (H.set b .gone).length = H.length := by simp
  have hrel : Rel X.G e' (H.set b .gone ++ [.dr i.size (ms ++ [(.undef, [])]) (some (ms.length, v))]) (w.drew.alloc (.cells cs' el)) := by
    refine (hgn.rel.grow hw).nameD (by simp) ?_ ?_ (by simp) ?_
    · intro blk s c1 n1 hx
      obtain ⟨rfl, rfl, rfl, rfl⟩ := Bind.at.inj hx
      refine ⟨_, heap_alloc w.drew _, rfl, rfl, cs', el, (0, 0), rfl, ⟨Nat.le_refl _, fun j _ => by simp⟩, ?_, by simp; omega, ?_⟩
      · rw [← Array.length_toList, hcs']
        simp only [List.length_append, hol, hnl, Array.length_toList, size_zeroCells, hzs]
        rw [hlen]
        obtain ⟨q, hq⟩ : ∃ q, grownCap w (sLen + 1) sCap el = sLen + 1 + q := ⟨grownCap w (sLen + 1) sCap el - (sLen + 1), by omega⟩
        rw [hq, Nat.add_sub_cancel_left, Nat.add_mul (sLen + 1), Nat.succ_mul]
        omega
      · rw [hcs']
        intro c1 hc1
        simp only [List.mem_append] at hc1
        rcases hc1 with hc1 | hc1 | hc1
        · rw [hoc] at hc1; exact hones c1 (List.mem_of_mem_take hc1)
        · exact (AV.rel_length hv).2 c1 hc1
        · exact zero_ones hzo _ c1 hc1
    · rintro k (⟨s, c1, n1, hx⟩ | hk)
      · obtain ⟨rfl, _⟩ := Bind.at.inj hx
        obtain ⟨f1, f2, f3⟩ := fresh_free hr
        exact ⟨fun ⟨b1, hl1, h1⟩ => f1 ⟨b1, (live_gone hl1).1, h1⟩, f2, f3⟩
      · refine ⟨?_, hr.sepO b hlb k (.inr hk)⟩
        rintro ⟨b1, hl1, h1⟩
        obtain ⟨hl, hne⟩ := live_gone hl1
        exact hne (hr.injO b1 b hl hlb k h1 (.inr hk))
    · intro _
      refine .inr ⟨w.heap.size, _, _, _, rfl, fun h => absurd (hlt _ h) (Nat.lt_irrefl _), fun k hk => Nat.lt_of_lt_of_le (hlt k hk) hw.size, cs', el, (0, 0), heap_alloc w.drew _, ε, ?_⟩
      refine Mems.snoc (hM.map (MemLe.refl _) (fun _ h => h) (fun i v' h => by simp [outAt] at h)) (fun k ob h1 _ => (hw.frame k (lt_of_heap h1) trivial).trans h1) ?_ hcl ?_ hnl hv'
      · rw [hcs', List.take_append_of_le_length (by omega), List.take_of_length_le (by omega), hoc]
      · exact ⟨olds, _, hcs', hol⟩
  refine ⟨_, _, e', hrun, ⟨hrel, ⟨fun b hb => hle.β b (by rw [hN]; exact hb), MemLe.refl _, rfl⟩, by simp, (hd.wle.trans (hw.mono fun _ _ => trivial) (fun _ _ h => h)), ?_, fun _ _ h _ => .inl h⟩, ?_⟩
  · rintro k ⟨b1, hl, h1⟩ hk
    rcases live_snoc hl with ⟨hb1, hl⟩ | rfl
    · rw [own1_bind_other (by omega)] at h1; exact ⟨b1, (live_gone hl).1, h1⟩
    · rw [own1_bind_same] at h1
      rcases h1 with ⟨s, c1, n1, h1⟩ | h1
      · obtain ⟨rfl, _⟩ := Bind.at.inj h1; exact absurd hk (Nat.lt_irrefl _)
      · exact ⟨b, hlb, .inr h1⟩
  · simp only [AV.val, AV.leaf]
    have hβ : e'.β H.length = .at w.heap.size i.size (grownCap w (sLen + 1) sCap el) (some (ms ++ [((AV.undef, []) : AV × Hp)]).length) := by rw [← hN]; exact e.bindD_same _ _ _
    refine .inr ⟨_, _, _, _, some ⟨w.heap.size, 0, none⟩, grownCap w (sLen + 1) sCap el, hβ, by rw [hlen], by rw [hlen]; exact hcap, fun n' hn' => by obtain rfl := Option.some.inj hn'; simp, ⟨rfl, rfl, Nat.zero_le _, by simp⟩, .inr (by simp)⟩

theorem appD_sound (hr : Rel X.G e H w) {t tx ty el : TypeId} {esz bytes : Nat} (hT : AppTy X.P t tx el esz bytes) {s : AV} {cs c : Value} (hs0 : AV.val e s cs) {v : AV} {news : List Value} (hv : AV.rel e v news) (hnl : news.length = esz)
    (hsrc : Go.Src X.P esz tx c 1 news w) {k : AV → Hp → T} (h : sat X Q (appDK esz bytes H s v k)) :
    ∃ v cv e' H' w', (Builtin.append_ #[t, tx] ty #[cs, c]).run X.P w = .ok cv w' ∧ AV.val e' v cv ∧ Step X.G e H w e' H' w' ∧ sat X Q (k v H') := by
  obtain ⟨i, z, hi, hsz, hby, hz, hzs, hzo⟩ := hT.info
  unfold appDK at h
  split at h
  · rename_i b len cap
    obtain ⟨e1, H1, h, s1, l1, hβ1, _, _⟩ := closeK_sound hr h
    have hto := s1.to hr
    have hv := AV.rel_to hto hv
    have hs0 := AV.val_to hto hs0
    obtain ⟨ob, hob, h⟩ := sat_nthK h
    split at h
    · rename_i es ms
      split at h
      · exact h.elim
      rename_i hes
      have hes := beq_eq hes
      have hz1 := h
      subst hes
      obtain ⟨hlm, hroom, h⟩ := hz1
      simp only [Bool.and_eq_true, decide_eq_true_eq] at hlm
      obtain ⟨hlm, hcl0⟩ := hlm
      have hcl0 := beq_eq hcl0
      have hz2 := h
      subst hlm
      obtain ⟨_, h⟩ := sat_setK hz2
      rw [newK_eq, List.length_set] at h
      have hlb : live H1 b := ⟨_, hob, by simp⟩
      simp only [AV.val, AV.leaf] at hs0
      have hd := s1.rel.deep b _ hob (by simp)
      rcases hs0 with ⟨hβ, _, _, _, hl0, _, base, hc⟩ | ⟨blk, es', rc, nn, base, cp, hβ, hc, hle, hin, hcap, hbase⟩
      · have hc : cs = .slice base 0 0 := by simpa using hc
        have hm0 : ms = [] := List.length_eq_zero_iff.1 hl0
        subst hm0
        obtain ⟨cv, w', e', q1, q2, q3⟩ := growD (ty := ty) (ε := fun _ _ => .no) (cs := []) (olds := []) (base := base) (sLen := 0) (sCap := 0) s1.rel hT hob (fun k hk => hd.lt hk) Mems.nil (by simp) (by simp) (fun c hc => by simp at hc) (by
          cases base with
          | none => rfl
          | some ad => simp [Builtin.firstCells, loadCells, loadCellsFrom]) rfl hv hnl hsrc (by omega) (by simpa using hroom)
        refine ⟨_, cv, e', _, w', by rw [hc]; exact q1, q3, s1.trans q2, h⟩
      · have hc : cs = .slice base ms.length cp := by simpa using hc
        obtain ⟨ob1, hw1, hrel1⟩ := s1.rel.obj b _ hob (by simp) _ _ _ _ hβ
        obtain ⟨rfl, hn1, cc, tt, fz, rfl, hfz, hcz, hmc, hones⟩ := hrel1
        rcases hd with ⟨h1, _, _⟩ | ⟨blk', s', cp', n', h1, h2, h3, cs', t2, fz2, h4, ε, h5⟩
        · rw [hβ] at h1; cases h1
        rw [hβ] at h1
        obtain ⟨rfl, rfl, rfl, rfl⟩ := Bind.at.inj h1
        rw [hw1] at h4
        obtain ⟨rfl, rfl, rfl⟩ := Obj.cells.inj (Option.some.inj h4)
        have hcz' : cc.toList.length = rc * es := by simpa using hcz
        have hcl : ms.length * es ≤ cc.toList.length := by rw [hcz']; exact Nat.mul_le_mul_right _ hmc
        by_cases hrm : ms.length + 1 ≤ cp
        · -- in place
          have hcpr : cp ≤ rc := by
            cases cap with
            | none => have := hcap.2.2.2; omega
            | some c0 =>
              have h6 := (hin _ hn1).2.2
              simp only [Option.getD_some] at h6
              simp only at hcap
              omega
          have hbb : base = some ⟨blk, 0, none⟩ := by
            rcases hbase with h | h
            · omega
            · simpa [(hin _ hn1).2.1] using h
          have hfit : ms.length * es + news.length ≤ cc.toList.length := by
            rw [hnl, hcz', ← Nat.succ_mul]; exact Nat.mul_le_mul_right _ (by omega)
          have hol : (over cc.toList (ms.length * es) news).length = cc.toList.length := over_length _ _ _ hfit
          have hvo := (AV.rel_length hv).2
          have hstore := run_storeCells_over (P := X.P) (k := blk) (t := tt) (fz := fz) (ms.length * es) news 0 cc w hw1 hfz (by simpa using hfit) (fun u hu => hvo u hu)
          have hrun := append_room (P := X.P) t tx ty el i hT.ht hi blk 0 ms.length cp c 1 news (by rw [hsz]; exact hsrc) hrm (by rw [hsz]; simpa using hstore)
          have hst := Step.renameD s1.rel hob (by simp) hβ (o' := .dr es (ms ++ [(.undef, [])]) (some (ms.length, v))) (n' := some (ms ++ [((AV.undef, []) : AV × Hp)]).length) (ob' := .cells (over cc.toList (ms.length * es) news).toArray tt fz)
            ⟨rfl, rfl, _, tt, fz, rfl, by rw [List.size_toArray, hol]; simpa using hfz, by rw [List.size_toArray, hol]; simpa using hcz, by simp; omega, ones_over hones hvo⟩ (fun _ => by
              refine .inr ⟨blk, es, rc, _, rfl, h2, fun k hk => by rw [setBlk_size]; exact h3 k hk, _, tt, fz, by rw [setBlk_get, if_pos ⟨rfl, lt_of_heap hw1⟩], ε, ?_⟩
              refine Mems.snoc (h5.map (MemLe.refl _) (fun _ h => h) (fun i v' h => by simp [outAt] at h)) (fun k ob g1 g2 => ?_) ?_ hcl (sub_over_eq hfit) hnl (AV.rel_to ((e1.bindD_le H1.length _ _).to s1.rel.dom) hv)
              · rw [setBlk_get, if_neg]
                · exact g1
                · rintro ⟨rfl, _⟩; exact h2 g2
              · simp only [over, List.append_assoc]
                rw [List.take_append_of_le_length (by rw [List.length_take]; omega), List.take_of_length_le (by rw [List.length_take]; omega)])
          refine ⟨_, _, _, _, _, by rw [hc, hbb]; exact hrun, ?_, s1.trans hst, h⟩
          simp only [AV.val, AV.leaf]
          refine .inr ⟨blk, es, rc, _, some ⟨blk, 0, none⟩, cp, e1.bindD_same _ _ _, rfl, hrm, fun n' hn' => by obtain rfl := Option.some.inj hn'; simp, ?_, .inr (by simp)⟩
          cases cap with
          | none => exact ⟨rfl, rfl, Nat.zero_le _, by have := hcap.2.2.2; omega⟩
          | some c0 =>
            simp only [Option.getD_some] at hcl0
            simp only at hcap
            omega
        · obtain ⟨cv, w', e', q1, q2, q3⟩ := growD (ty := ty) (ε := ε) (cs := cc.toList) (olds := cc.toList.take (ms.length * es)) (base := base) (sLen := ms.length) (sCap := cp) s1.rel hT hob h3 h5 hcl rfl hones (by
            by_cases h0 : ms.length * es = 0
            · rw [h0, List.take_zero]
              cases base with
              | none => simp [Builtin.firstCells, h0]
              | some ad => simp [Builtin.firstCells, h0, loadCells, loadCellsFrom]
            · have hbb : base = some ⟨blk, 0, none⟩ := by
                rcases hbase with h | h
                · exfalso
                  have : ms.length = 0 := by omega
                  rw [this] at h0; simp at h0
                · simpa [(hin _ hn1).2.1] using h
              have hsub : Sub cc.toList 0 (cc.toList.take (ms.length * es)) := ⟨[], cc.toList.drop (ms.length * es), by simp, rfl⟩
              have hl : (cc.toList.take (ms.length * es)).length = ms.length * es := by rw [List.length_take]; omega
              have := run_loadCells_sub (P := X.P) (w := w.drew) (k := blk) (cs := cc) (t := tt) (fz := fz) hw1 hsub
              rw [hl] at this
              simp only [Builtin.firstCells, hbb]
              exact this) rfl hv hnl hsrc (by omega) hroom
          exact ⟨_, cv, e', _, w', by rw [hc]; exact q1, q3, s1.trans q2, h⟩
    · exact h.elim
  · exact h.elim

theorem sat_m5 {o off len : Nat} {p : List Nat} {b : Bool} {K : T} {s : String} (h : sat X Q (match o, p, off, len, b with
    | 0, [], 0, 1, true => K
    | _, _, _, _, _ => .stuck s)) : o = 0 ∧ p = [] ∧ off = 0 ∧ len = 1 ∧ b = true ∧ sat X Q K := by
  rcases o with _ | o <;> rcases p with _ | ⟨_, _⟩ <;> rcases off with _ | off <;> rcases len with _ | _ | len <;> cases b <;> first | exact ⟨rfl, rfl, rfl, rfl, rfl, h⟩ | exact h.elim
theorem sat_m3 {off len : Nat} {b : Bool} {K : T} {s : String} (h : sat X Q (match off, len, b with
    | 0, 1, true => K
    | _, _, _ => .stuck s)) : off = 0 ∧ len = 1 ∧ b = true ∧ sat X Q K := by
  rcases off with _ | off <;> rcases len with _ | _ | len <;> cases b <;> first | exact ⟨rfl, rfl, rfl, h⟩ | exact h.elim
theorem op_appD {esz bytes : Nat} {s x : Opd} {s' x' : Operand} {t tx : TypeId} (hs1 : chkOpd X.G s s' = true) (hx1 : chkOpd X.G x x' = true) (hT : chkApp X.P t tx esz bytes = true) :
    OpS X (.call { callee := .builtin .append, args := #[s', x'], argTypes := #[t, tx] }) (.appD esz bytes s x) := by
  intro o ho e H w fr a Q k hr hf hs
  have hsv := chkOpd_val hr hf hs1
  have hxv := chkOpd_val hr hf hx1
  obtain ⟨el, hT⟩ := chkApp_ty hT
  simp only [opT, evK_eq] at hs
  have fin {v : AV} {news : List Value} (hv : AV.rel e v news) (hnl : news.length = esz) (hsrc : Go.Src X.P esz tx (a.eval x') 1 news w) (h : sat X Q (appDK esz bytes H (s.at fr) v k)) :
      Out X e H w Q k ((execOp a.eval o).run X.P w) := by
    obtain ⟨v, cv, e', H', w', hrun, hv, hst, hk⟩ := appD_sound (ty := o.type) hr hT hsv hv hnl hsrc h
    have : (execOp a.eval o).run X.P w = .ok (.value cv) w' := by
      rw [run_call_builtin ho]
      simp only [builtin]
      exact run_v (by simpa using hrun)
    rw [this]
    exact ⟨v, cv, e', H', w', .inl rfl, hv, hst, hk⟩
  have src {blk cp : Nat} {cs : Array Value} {tt : TypeId} {fz : Nat × Nat} {news : List Value} (hc : a.eval x' = .slice (some ⟨blk, 0, none⟩) 1 cp) (hw : w.heap[blk]? = some (.cells cs tt fz)) (hsub : Sub cs.toList 0 news) (hnl : news.length = esz) (hon : Ones news) :
      Go.Src X.P esz tx (a.eval x') 1 news w := by
    rw [hc]
    have key : ∀ w' : World, (∀ k : Nat, w'.heap[k]? = w.heap[k]?) → (Builtin.firstCells esz 1 (.slice (some ⟨blk, 0, none⟩) 1 cp)).run X.P w' = .ok news.toArray w' := by
      intro w' hw'
      have := run_loadCells_sub (P := X.P) (w := w') (k := blk) (cs := cs) (t := tt) (fz := fz) (by rw [hw']; exact hw) hsub
      simp only [Builtin.firstCells, Nat.one_mul]
      rw [← hnl]; exact this
    exact ⟨hT.kind, fun _ => rfl, key w (fun _ => rfl), key w.drew (fun _ => rfl), by simpa using hnl, hon⟩
  split at hs
  · rename_i c oo p off len cap hxa
    rw [hxa] at hxv
    simp only [AV.val, AV.leaf] at hxv
    obtain ⟨ob, hob, hs⟩ := sat_nthK hs
    split at hs
    · rename_i v
      obtain ⟨rfl, rfl, rfl, rfl, hsz, hs⟩ := sat_m5 hs
      have hsz := beq_eq hsz
      rcases hxv with ⟨hβ, _, _, _, hl0, _⟩ | ⟨blk, es, rc, nn, base, cp, hβ, hc, hle, hin, hcap, hbase⟩
      · cases hl0
      · obtain ⟨oo, hoo, hrel⟩ := hr.obj c _ hob (by simp) _ _ _ _ hβ
        obtain ⟨_, rfl, cs, tt, fz, rfl, hvr, _⟩ := hrel
        simp only [AV.rel, AV.rels] at hvr
        obtain ⟨news, b2, h1, h2, rfl⟩ := hvr
        rw [List.append_nil] at h1
        have hnl : news.length = esz := by rw [(AV.rel_length h2).1, hsz]
        have hbb : base = some ⟨blk, 0, none⟩ := by
          rcases hbase with h | h
          · omega
          · simpa using h
        subst hbb
        exact fin h2 hnl (src (by simpa using hc) hoo (by rw [h1]; exact Sub.refl _) hnl (AV.rel_length h2).2) hs
    · rename_i es y
      obtain ⟨rfl, rfl, hsz, hz⟩ := sat_m3 hs
      have hsz := beq_eq hsz
      rcases hxv with ⟨hβ, _, _, _, hl0, _⟩ | ⟨blk, es', rc, nn, base, cp, hβ, hc, hle, hin, hcap, hbase⟩
      · cases hl0
      · obtain ⟨o1, hoo, hrel⟩ := hr.obj c _ hob (by simp) _ _ _ _ hβ
        obtain ⟨rfl, hn, cs, tt, fz, rfl, _, _, _, _, mid, post, hcs, hrow⟩ := hrel
        obtain ⟨_, rfl, _⟩ := hin _ hn
        simp only [Tr.row] at hrow
        obtain ⟨news, b2, rfl, h1, h2, rfl⟩ := hrow
        have hv : AV.rel e (.t y) news := by simpa only [AV.rel, AV.leaf] using h2
        have hnl : news.length = esz := by rw [Tr.rel_length h2, hsz]
        have hbb : base = some ⟨blk, 0, none⟩ := by
          rcases hbase with h | h
          · omega
          · simpa using h
        subst hbb
        exact fin hv hnl (src (by simpa using hc) hoo ⟨[], post, by simpa using hcs, rfl⟩ hnl (Tr.rel_one h2)) hz
    · exact hs.elim
  · exact hs.elim
end Stk
