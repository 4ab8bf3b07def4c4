/- The framework, part 10: appends, copies, what is made. -/
import Derived.Test.YthkbahbbdacgeaaDoorFw9
namespace Stk
open Go
variable {X : Cx} {Q : Ex → Fr → Hp → Prop} {e : Env} {H : Hp} {w : World}

theorem rels_row {m : Nat → Option (List Value)} {esz : Nat} : ∀ {ys : List Tr} {cs : List Value}, Tr.rels m ys cs → Tr.allSz esz ys = true → Tr.row m esz ys cs
  | [], _, h, _ => h
  | y :: ys, cs, h, hs => by
    simp only [Tr.rels] at h
    simp only [Tr.allSz, Bool.and_eq_true] at hs
    obtain ⟨a, b, rfl, h1, h2⟩ := h
    simp only [Tr.row]
    exact ⟨a, b, rfl, by rw [Tr.rel_length h1, beq_eq hs.1], h1, rels_row h2 hs.2⟩

def chkApp (P : Program) (t tx : TypeId) (esz bytes : Nat) : Bool :=
  match P.underlying t with
  | some (.slice el) => (match P.info? el with
    | some i => i.size == esz && i.bytes == bytes && (match i.zero with
      | some z => z.cells.size == esz && z.cells.toList.all Value.oneCell'
      | none => false)
    | none => false) && (match P.underlying tx with
    | some (.slice _) => true
    | some .string => true
    | _ => false)
  | _ => false
theorem chkApp_ty {P : Program} {t tx : TypeId} {esz bytes : Nat} (h : chkApp P t tx esz bytes = true) : ∃ el, AppTy P t tx el esz bytes := by
  unfold chkApp at h
  split at h
  · rename_i el hel
    simp only [Bool.and_eq_true] at h
    obtain ⟨h1, h2⟩ := h
    split at h1
    · rename_i i hi
      simp only [Bool.and_eq_true, beq_iff_eq] at h1
      obtain ⟨⟨h3, h4⟩, h5⟩ := h1
      split at h5
      · rename_i z hz
        simp only [Bool.and_eq_true, beq_iff_eq, List.all_eq_true] at h5
        refine ⟨el, hel, ⟨i, z, hi, h3, h4, hz, h5.1, fun c hc => h5.2 c hc⟩, ?_⟩
        split at h2
        · rename_i e' he'; exact .inl ⟨e', he'⟩
        · rename_i he'; exact .inr he'
        · cases h2
      · cases h5
    · cases h1
  · cases h

theorem sat_app4 {o off : Nat} {p : List Nat} {b : Bool} {K K' : T} (h : sat X Q (match o, p, off, b with
            | 0, [], 0, true => K
            | _, _, _, _ => K')) : (o = 0 ∧ p = [] ∧ off = 0 ∧ b = true ∧ sat X Q K) ∨ sat X Q K' := by
  cases o <;> cases p <;> cases off <;> cases b <;> first | exact .inl ⟨rfl, rfl, rfl, rfl, h⟩ | exact .inr h

theorem op_append {inn : Bool} {esz bytes : Nat} {s x : Opd} {s' x' : Operand} {t tx : TypeId} (hs1 : chkOpd X.G s s' = true) (hx1 : chkOpd X.G x x' = true) (hT : chkApp X.P t tx esz bytes = true) :
    OpS X (.call { callee := .builtin .append, args := #[s', x'], argTypes := #[t, tx] }) (.append inn esz bytes s x) := by
  intro o ho e H w fr a Q k hr hf hs
  have hsv := chkOpd_val hr hf hs1
  have hxv := chkOpd_val hr hf hx1
  obtain ⟨el, hT⟩ := chkApp_ty hT
  simp only [opT, evK_eq] at hs
  have fin {e1 : Env} {H1 : Hp} (s1 : Step X.G e H w e1 H1 w) {ys : List Tr} {news : List Value} (hny : Tr.row e1.ro esz ys news) (hsrc : Go.Src X.P esz tx (a.eval x') ys.length news w) (h : sat X Q (appendK inn esz bytes H1 (s.at fr) ys k)) :
      Out X e H w Q k ((execOp a.eval o).run X.P w) := by
    obtain ⟨v, cv, e', H', w', hrun, hv, hst, hk⟩ := append_sound (ty := o.type) s1.rel hT (AV.val_to (s1.to hr) hsv) hny hsrc h
    have : (execOp a.eval o).run X.P w = .ok (.value cv) w' := by
      rw [run_call_builtin ho]
      simp only [builtin]
      exact run_v (by simpa using hrun)
    rw [this]
    exact ⟨v, cv, e', H', w', .inl rfl, hv, s1.trans hst, hk⟩
  have plain (h : sat X Q (elemsK esz H (x.at fr) fun ys => appendK inn esz bytes H (s.at fr) ys k)) : Out X e H w Q k ((execOp a.eval o).run X.P w) := by
    obtain ⟨ys, news, h, hrow, hform⟩ := elems_sound hr hxv h
    exact fin (Step.refl hr) hrow (src_of hT.kind hrow hform) h
  have main (h : sat X Q (match x.at fr with
      | .sl c o p off len _ => nthK (fun ob => match ob with
          | .var (.agg vs) => match o, p, off, Nat.beq len vs.length with
            | 0, [], 0, true => frzsK H vs fun ys H1 => match Tr.allSz esz ys with
              | true => appendK inn esz bytes H1 (s.at fr) ys k
              | false => .stuck "append: size"
            | _, _, _, _ => elemsK esz H (x.at fr) fun ys => appendK inn esz bytes H (s.at fr) ys k
          | _ => elemsK esz H (x.at fr) fun ys => appendK inn esz bytes H (s.at fr) ys k) c H
      | _ => elemsK esz H (x.at fr) fun ys => appendK inn esz bytes H (s.at fr) ys k)) : Out X e H w Q k ((execOp a.eval o).run X.P w) := by
    split at h
    · rename_i b oo p off len cap hxa
      obtain ⟨ob, hob, h⟩ := sat_nthK h
      split at h
      · rename_i vs
        rcases sat_app4 h with ⟨eo, ep, eoff, hlen, hz⟩ | h
        rotate_left
        · exact plain h
        · have hlen := beq_eq hlen
          subst eo ep eoff
          rw [hxa] at hxv
          simp only [AV.val, AV.leaf] at hxv
          rcases hxv with ⟨hβ, _, _, _, hl0, _, base, hc⟩ | ⟨blk, es, rc, nn, base, cp, hβ, hc, hle, hin, hcap, hbase⟩
          · obtain ⟨es', he'⟩ := hr.virt b _ hob (by simp) hβ
            cases he'
          · obtain ⟨oo, hoo, hrel⟩ := hr.obj b _ hob (by simp) _ _ _ _ hβ
            obtain ⟨_, rfl, cs, tt, fz, rfl, hvr, _⟩ := hrel
            simp only [AV.rel] at hvr
            obtain ⟨ys, e1, H1, h, s1, hys, hvl⟩ := frzs_sound hr hvr hz
            obtain ⟨hall, h⟩ := sat_t h
            have hrow := rels_row hys hall
            refine fin s1 hrow (src_of hT.kind hrow (.inl ⟨base, cp, ?_, ?_⟩)) h
            · rw [hvl, ← hlen]; simpa using hc
            · rcases hbase with h0 | rfl
              · left
                have : ys.length = 0 := by omega
                have : ys = [] := List.length_eq_zero_iff.1 this
                subst this; simpa [Tr.row] using hrow
              · right; exact ⟨_, rfl, rfl, cs, tt, fz, hoo, by simpa using Sub.refl cs.toList⟩
      · exact plain h
    · exact plain h
  split at hs
  · exact main hs
  · exact main hs
  · exact hs.elim

theorem zeroCells_succ (zs : Array Value) (n : Nat) : (Builtin.zeroCells zs (n + 1)).toList = zs.toList ++ (Builtin.zeroCells zs n).toList := by
  by_cases hz : zs.size = 0
  · have : zs = #[] := Array.size_eq_zero_iff.1 hz
    subst this; simp [Builtin.zeroCells]
  have hpos : 0 < zs.size := by omega
  have hget : ∀ n j, (Builtin.zeroCells zs n).toList[j]? = if j < n * zs.size then zs[j % zs.size]? else none := by
    intro n j
    simp only [Builtin.zeroCells, Array.toList_map, List.getElem?_map]
    by_cases hj : j < n * zs.size
    · rw [if_pos hj]
      have : (Array.range (n * zs.size)).toList[j]? = some j := by simp [hj]
      have hlt := Nat.mod_lt j hpos
      rw [this, Array.getElem?_eq_getElem hlt]
      simp [getElem!_pos zs (j % zs.size) hlt]
    · rw [if_neg hj]
      have : (Array.range (n * zs.size)).toList[j]? = none := by
        rw [List.getElem?_eq_none]; simp; omega
      rw [this]; rfl
  apply List.ext_getElem?
  intro j
  rw [hget, List.getElem?_append]
  simp only [Array.length_toList]
  by_cases hj : j < zs.size
  · rw [if_pos hj, if_pos (by rw [Nat.succ_mul]; omega), Nat.mod_eq_of_lt hj]; simp
  · rw [if_neg hj, hget, Nat.succ_mul]
    have : (j - zs.size) % zs.size = j % zs.size := by
      have := Nat.mod_eq_sub_mod (a := j) (b := zs.size) (by omega)
      exact this.symm
    rw [this]
    by_cases h2 : j < n * zs.size + zs.size
    · rw [if_pos h2, if_pos (by omega)]
    · rw [if_neg h2, if_neg (by omega)]

theorem made_row {m : Nat → Option (List Value)} {z : Tr} {zs : Array Value} (h : Tr.rel m z zs.toList) : ∀ n, Tr.row m zs.size (List.replicate n z) (Builtin.zeroCells zs n).toList
  | 0 => by simp [Tr.row, Builtin.zeroCells]
  | n + 1 => by
    rw [zeroCells_succ]
    simp only [List.replicate_succ, Tr.row]
    exact ⟨zs.toList, _, rfl, by simp, h, made_row h n⟩

/-! ### Writing -/
def storeAll (base : Option Addr) (news : List Value) : Sem Unit :=
  match base with
  | some ad => storeCells ad news
  | none => pure ()
theorem write_sound (hr : Rel X.G e H w) {d : AV} {cd : Value} (hd : AV.val e d cd) {esz : Nat} {ys : List Tr} {news : List Value} (hny : Tr.row e.ro esz ys news) {k : Hp → T} (h : sat X Q (writeK esz H d ys k))
    (hlen : ∀ base len cp, cd = .slice base len cp → ys.length ≤ len) :
    ∃ H' w', sat X Q (k H') ∧ Step X.G e H w e H' w' ∧ ∃ base len cp, cd = .slice base len cp ∧ (news ≠ [] → base ≠ none) ∧ ∀ P : Program, (storeAll base news).run P w = .ok () w' := by
  have hl := Tr.row_length hny
  unfold writeK at h
  split at h
  · rename_i b o p off len cap
    obtain ⟨ob, hob, h⟩ := sat_nthK h
    simp only [AV.val, AV.leaf] at hd
    cases ob with
    | map _ => exact h.elim
    | gone => exact h.elim
    | row es xs =>
      have h' : p = [] ∧ Nat.beq es esz = true ∧ sat X Q (setK (.row es (over xs off ys)) b H k) := by
        cases p with
        | nil =>
          simp only at h
          cases hb : Nat.beq es esz with
          | true => rw [hb] at h; exact ⟨rfl, rfl, h⟩
          | false => rw [hb] at h; exact h.elim
        | cons _ _ => exact h.elim
      obtain ⟨hp0, he, hz⟩ := h'
      have he := beq_eq he
      subst hp0 he
      obtain ⟨_, hk⟩ := sat_setK hz
      have noth (hys : ys = []) : H.set b (.row es (over xs off ys)) = H := by
        subst hys
        apply List.ext_getElem?
        intro j
        rw [List.getElem?_set]
        by_cases hj : b = j
        · subst hj; rw [if_pos rfl, if_pos (lt_of_get hob), hob]; simp [over]
        · rw [if_neg hj]
      rcases hd with ⟨hβ, rfl, _, rfl, rfl, hcp, base, hc⟩ | ⟨blk, es', rc, nn, base, cp, hβ, hc, hle, hin, hcap, hbase⟩
      · have hc : cd = .slice base 0 0 := by simpa using hc
        have hys : ys = [] := by rw [← List.length_eq_zero_iff]; have := hlen _ _ _ hc; omega
        have hnews : news = [] := by subst hys; simpa [Tr.row] using hny
        refine ⟨_, w, hk, by rw [noth hys]; exact Step.refl hr, base, 0, 0, hc, fun hh => absurd hnews hh, fun P => ?_⟩
        subst hnews; cases base <;> rfl
      · have hc : cd = .slice base len cp := by simpa using hc
        have hyl := hlen _ _ _ hc
        obtain ⟨oo, hoo, hrel⟩ := hr.obj b _ hob (by simp) _ _ _ _ hβ
        obtain ⟨rfl, hn, cc, tt, fz, rfl, hfz, hcsz, hxc, hones, mid, post, hcs, hrow⟩ := hrel
        obtain ⟨hin1, rfl, hin2⟩ := hin _ hn
        by_cases hys : ys = []
        · have hnews : news = [] := by subst hys; simpa [Tr.row] using hny
          refine ⟨_, w, hk, by rw [noth hys]; exact Step.refl hr, base, len, cp, hc, fun hh => absurd hnews hh, fun P => ?_⟩
          subst hnews; cases base <;> rfl
        · have hpos : 0 < ys.length := List.length_pos_iff.2 hys
          have hb1 : base = some ⟨blk, 0 + off * es, none⟩ := by
            rcases hbase with hz0 | hz0
            · omega
            · exact hz0
          subst hb1
          have hml := Tr.row_length hrow
          have hs0 : Sub cc.toList 0 mid := ⟨[], post, by simpa using hcs, rfl⟩
          have hfit : off * es + news.length ≤ cc.size := by
            rw [hl, ← Nat.add_mul, hcsz]; exact Nat.mul_le_mul_right _ (by omega)
          have hsub : Sub mid (off * es) ((mid.drop (off * es)).take news.length) := by
            refine ⟨mid.take (off * es), (mid.drop (off * es)).drop news.length, ?_, ?_⟩
            · rw [List.take_append_drop, List.take_append_drop]
            · rw [List.length_take, Nat.min_eq_left]; rw [hml]; exact Nat.mul_le_mul_right _ (by omega)
          have hsl : ((mid.drop (off * es)).take news.length).length = news.length := by
            rw [List.length_take, List.length_drop, Nat.min_eq_left]
            rw [hml, hl, ← Nat.sub_mul]; exact Nat.mul_le_mul_right _ (by omega)
          have hover : over cc.toList (off * es) news = over mid (off * es) news ++ post := by
            have := over_over hs0 hsub (mid' := news) hsl.symm
            rw [Nat.zero_add] at this
            rw [← this]
            have hl2 : (over mid (off * es) news).length = mid.length := over_length _ _ _ (by have := hsub.len; omega)
            have h3 := over_pre (pre := []) (mid := mid) (post := post) hl2
            rw [hcs]
            simpa using h3
          have hcl : (over cc.toList (off * es) news).length = cc.toList.length := over_length _ _ _ (by simpa using hfit)
          have hrow' := Tr.row_over hrow hny off (by omega)
          have hstep := Step.set hr hob (by simp) hβ (o' := .row es (over xs off ys)) (ob' := .cells (over cc.toList (off * es) news).toArray tt fz)
            ⟨rfl, by rw [hn, over_length _ _ _ (by omega)], _, tt, fz, rfl, by rw [List.size_toArray, hcl]; simpa using hfz, by rw [List.size_toArray, hcl]; simpa using hcsz, by rw [over_length _ _ _ (by omega)]; exact hxc, by
              intro c1 hc1
              simp only [over, List.mem_append] at hc1
              rcases hc1 with (hc1 | hc1) | hc1
              · exact hones c1 (List.mem_of_mem_take hc1)
              · exact Tr.row_one hny c1 hc1
              · exact hones c1 (List.mem_of_mem_drop hc1), _, post, by simpa using hover, hrow'⟩
          refine ⟨_, _, hk, hstep, _, len, cp, hc, fun _ => by simp, fun P => ?_⟩
          have := run_storeCells_over (P := P) (k := blk) (t := tt) (fz := fz) (off * es) news 0 cc w hoo hfz (by simpa using hfit) (fun u hu => Tr.row_one hny u hu)
          simpa [storeAll] using this
    | var v =>
      obtain ⟨y, d, hp, h⟩ := sat_getA h
      simp only [Nat.zero_add] at h
      split at h
      · rename_i m xs hod hesz
        have hod := beq_eq hod
        have hesz := beq_eq hesz
        obtain ⟨hb, hz⟩ := h
        simp only [Bool.and_eq_true, decide_eq_true_eq, Bool.not_eq_true'] at hb
        subst hod hesz
        obtain ⟨v', hv', h7⟩ := sat_setA hz
        obtain ⟨_, h6⟩ := sat_setK h7
        rcases hd with ⟨hβ, _⟩ | ⟨blk, es', rc, nn, base, cp, hβ, hc, hle, hin, hcap, hbase⟩
        · obtain ⟨es', he'⟩ := hr.virt b _ hob (by simp) hβ
          cases he'
        · have hc : cd = .slice base len cp := by simpa using hc
          have hyl := hlen _ _ _ hc
          obtain ⟨oo, hoo, hrel⟩ := hr.obj b _ hob (by simp) _ _ _ _ hβ
          obtain ⟨hnn, rfl, cs, t, fz, rfl, hvr, hfz⟩ := hrel
          obtain ⟨mid, hs, hy, hu⟩ := pathA_sound (y := .t (.arr m (over xs off ys))) hp hvr
          simp only [AV.rel, AV.leaf, Tr.rel] at hy
          have hol := Tr.ones_length hy.2
          have honesY : Tr.ones e.ro ys news := by
            have hna : ∀ y ∈ ys, y.isAgg = false := by
              intro y hy'
              have := hb.2
              rw [List.any_eq_false] at this
              simpa using this y hy'
            have : ∀ (ys : List Tr) (news : List Value), Tr.row e.ro 1 ys news → (∀ y ∈ ys, y.isAgg = false) → Tr.ones e.ro ys news := by
              intro ys
              induction ys with
              | nil => intro news h _; exact h
              | cons y r ih =>
                intro news h hna
                simp only [Tr.row] at h
                obtain ⟨a, b, rfl, h1, h2, h3⟩ := h
                match a, h1, h2 with
                | [c], _, h2 => simp only [Tr.ones]; exact ⟨c, b, rfl, hna y (by simp), h2, ih b h3 fun z hz => hna z (by simp [hz])⟩
            exact this ys news hny hna
          have hnl : news.length = ys.length := by simpa using hl
          have hnew : Tr.ones e.ro (over xs off ys) (over mid off news) := by
            have e1 : xs = xs.take off ++ ((xs.drop off).take ys.length ++ (xs.drop off).drop ys.length) := by rw [List.take_append_drop, List.take_append_drop]
            have h1 := hy.2
            rw [e1] at h1
            obtain ⟨a, b, hab, ha, hb'⟩ := Tr.ones_split h1
            obtain ⟨c, d', rfl, hc', hd'⟩ := Tr.ones_split hb'
            have la := Tr.ones_length ha
            have lc := Tr.ones_length hc'
            have : over mid off news = a ++ (news ++ d') := by
              subst hab
              have hla : a.length = off := by rw [la, List.length_take, Nat.min_eq_left (by omega)]
              have hlc : news.length = c.length := by rw [lc, hnl, List.length_take, List.length_drop, Nat.min_eq_left (by omega)]
              rw [← hla]; exact over_pre hlc
            rw [this]
            have e3 : over xs off ys = xs.take off ++ (ys ++ (xs.drop off).drop ys.length) := by simp [over]
            rw [e3]
            exact Tr.ones_append ha (Tr.ones_append honesY hd')
          have hsub : Sub mid off ((mid.drop off).take news.length) := by
            refine ⟨mid.take off, (mid.drop off).drop news.length, ?_, ?_⟩
            · rw [List.take_append_drop, List.take_append_drop]
            · rw [List.length_take, Nat.min_eq_left]; omega
          have hsl : ((mid.drop off).take news.length).length = news.length := by
            rw [List.length_take, List.length_drop, Nat.min_eq_left]; omega
          have hml2 : (over mid off news).length = mid.length := over_length _ _ _ (by omega)
          have hnew2 := hu v' hv' (over mid off news) (by simp only [AV.rel, AV.leaf, Tr.rel]; exact ⟨by rw [over_length _ _ _ (by omega)]; exact hy.1, hnew⟩) hml2
          rw [over_over hs hsub hsl.symm] at hnew2
          have hcl : (over cs.toList (o + off) news).length = cs.toList.length := over_length _ _ _ (by have := (hs.trans hsub).len; omega)
          by_cases hys : ys = []
          · have hnews : news = [] := by subst hys; simpa [Tr.row] using hny
            subst hnews
            have e1 : over cs.toList (o + off) [] = cs.toList := by simp [over]
            rw [e1] at hnew2
            have hstep := Step.set hr hob (by simp) hβ (o' := .var v') (ob' := .cells cs t fz) ⟨hnn, rfl, cs, t, fz, rfl, hnew2, hfz⟩
            rw [setBlk_self hoo] at hstep
            refine ⟨_, w, h6, hstep, base, len, cp, hc, fun hh => absurd rfl hh, fun P => ?_⟩
            cases base <;> rfl
          · have hpos : 0 < ys.length := List.length_pos_iff.2 hys
            have hb1 : base = some ⟨blk, o + off * 1, none⟩ := by
              rcases hbase with hz0 | hz0
              · omega
              · exact hz0
            subst hb1
            have hstep := Step.set hr hob (by simp) hβ (o' := .var v') (ob' := .cells (over cs.toList (o + off) news).toArray t fz)
              ⟨hnn, rfl, _, t, fz, rfl, by simpa using hnew2, by rw [List.size_toArray, hcl]; simpa using hfz⟩
            refine ⟨_, _, h6, hstep, _, len, cp, hc, fun _ => by simp, fun P => ?_⟩
            have := run_storeCells_over (P := P) (k := blk) (t := t) (fz := fz) (o + off) news 0 cs w hoo hfz (by have := (hs.trans hsub).len; simp at this; omega) (fun u hu => Tr.row_one hny u hu)
            simpa [storeAll] using this
      · exact h.elim
  · exact h.elim

/-- A source, for copy. -/
theorem op_copy {esz : Nat} {d s : Opd} {d' s' : Operand} {t tx el : TypeId} (hd1 : chkOpd X.G d d' = true) (hs1 : chkOpd X.G s s' = true) (ht : X.P.underlying t = some (.slice el)) (hsz : (X.P.info? el).map (·.size) = some esz) :
    OpS X (.call { callee := .builtin .copy, args := #[d', s'], argTypes := #[t, tx] }) (.copy esz d s) := by
  intro o ho e H w fr a Q k hr hf hs
  have hdv := chkOpd_val hr hf hd1
  have hsv := chkOpd_val hr hf hs1
  simp only [opT, evK_eq] at hs
  -- what the source yields, cut
  have cut {ys : List Tr} {news : List Value} {c : Value} (hrow : Tr.row e.ro esz ys news)
      (hform : (∃ base cap, c = .slice base ys.length cap ∧ (news = [] ∨ ∃ ad, base = some ad ∧ ad.spot = none ∧ ∃ cs t fz, w.heap[ad.block]? = some (.cells cs t fz) ∧ Sub cs.toList ad.off news)) ∨ (∃ s, c = .string s ∧ esz = 1 ∧ ys.length = s.size ∧ news = byteCells s)) (dl : Nat) :
      ∃ n2, Tr.row e.ro esz (ys.take dl) n2 ∧ (Builtin.lenOf c).run X.P w = .ok ys.length w ∧ (Builtin.firstCells esz (min ys.length dl) c).run X.P w = .ok n2.toArray w := by
    obtain ⟨n2, hs2, hr2⟩ := Tr.row_cut hrow 0 dl
    simp only [Nat.zero_min, Nat.zero_mul, List.drop_zero] at hs2 hr2
    have hl2 := Tr.row_length hr2
    have hlt : (ys.take dl).length = min ys.length dl := by simp [Nat.min_comm]
    rw [hlt] at hl2
    refine ⟨n2, hr2, ?_, ?_⟩
    · rcases hform with ⟨base, cap, rfl, _⟩ | ⟨s, rfl, _, h1, _⟩
      · rfl
      · rw [h1]; rfl
    · rcases hform with ⟨base, cap, rfl, hn⟩ | ⟨s, rfl, rfl, h1, rfl⟩
      · rcases hn with rfl | ⟨ad, rfl, hsp, cs, t, fz, hk, hsub⟩
        · have : n2 = [] := by
            obtain ⟨p, q, h1, _⟩ := hs2
            have := congrArg List.length h1
            simp at this
            exact List.length_eq_zero_iff.1 (by omega)
          subst this
          have h0 : min ys.length dl * esz = 0 := by simpa using hl2.symm
          cases base with
          | none => rfl
          | some ad => simp only [Builtin.firstCells, h0]; rfl
        · have := run_loadCells_sub (P := X.P) hk (hsub.trans hs2)
          simp only [Builtin.firstCells, ← hl2]
          rw [addr_eta hsp]; simpa using this
      · have hn2 : n2 = (byteCells s).take (min ys.length dl) := by
          have := hs2.eq
          rw [List.drop_zero, hl2, Nat.mul_one] at this
          exact this.symm
        rw [hn2]
        simp only [Builtin.firstCells]
        simp only [Sem.run_pure]
        congr 1
        apply Array.ext'
        simp only [byteCells, Array.toList_map, ByteArray.data_extract, Array.toList_extract, List.extract_eq_take_drop, List.drop_zero, Nat.sub_zero]
        rw [← List.map_take]
  have run {base : Option Addr} {dl cp : Nat} {n : Nat} {c : Value} {n2 : List Value} {w' : World} (hc : a.eval d' = .slice base dl cp) (h1 : (Builtin.lenOf (a.eval s')).run X.P w = .ok n w)
      (h2 : (Builtin.firstCells esz (min n dl) (a.eval s')).run X.P w = .ok n2.toArray w) (h3 : (storeAll base n2).run X.P w = .ok () w') (_ : c = c) : (execOp a.eval o).run X.P w = .ok (.value (.int .i64 (min n dl : Nat))) w' := by
    rw [run_call_builtin ho]
    simp only [builtin]
    refine run_v ?_
    have e1 : Nat.min n dl = min n dl := rfl
    simp only [List.getElem?_toArray, Builtin.copy_]
    cases base with
    | none =>
      have h3 : w = w' := by simpa [storeAll] using h3
      subst h3
      simp [hc, Sem.run_bind, run_under ht, Result.andThen, h1, run_sizeOf hsz, e1, h2, goInt]
    | some ad =>
      simp only [storeAll] at h3
      simp [hc, Sem.run_bind, run_under ht, Result.andThen, h1, run_sizeOf hsz, e1, h2, goInt, h3]
  unfold copyK at hs
  split at hs
  · rename_i b oo p off dl cap hda
    rw [hda] at hs
    obtain ⟨ys, news, hs, hrow, hform⟩ := elems_sound hr hsv hs
    obtain ⟨n2, hr2, h1, h2⟩ := cut hrow hform dl
    rw [hda] at hdv
    have hdl : ∀ base len cp, a.eval d' = .slice base len cp → len = dl := by
      intro base len cp hc
      simp only [AV.val, AV.leaf] at hdv
      rcases hdv with ⟨_, _, _, _, rfl, _, base', hc'⟩ | ⟨_, _, _, _, base', c', _, hc', _⟩ <;> (rw [hc] at hc'; simp at hc'; omega)
    obtain ⟨H', w', hs, hst, base, len, cp, hc, hne, h3⟩ := write_sound hr hdv hr2 hs (fun base len cp hc => by rw [hdl _ _ _ hc]; simp; omega)
    have hlen := hdl _ _ _ hc
    subst hlen
    rw [run (c := a.eval s') hc h1 h2 (h3 X.P) rfl]
    exact ⟨_, _, e, H', w', .inl rfl, mk_int _ _ _, hst, hs⟩
  · exact hs.elim

theorem op_clear {esz : Nat} {z : Tr} {x : Opd} {x' : Operand} {t el : TypeId} (hx : chkOpd X.G x x' = true) (ht : X.P.underlying t = some (.slice el)) (hz : zeroOK X.P el z = true) (hsz : (X.P.info? el).map (·.size) = some esz) :
    OpS X (.call { callee := .builtin .clear, args := #[x'], argTypes := #[t] }) (.clear esz z x) := by
  intro o ho e H w fr a Q k hr hf hs
  have hxv := chkOpd_val hr hf hx
  simp only [opT, evK_eq] at hs
  obtain ⟨zv, i, hi, _, hzs, hzr, hzrun⟩ := zeroOK_run hz e.ro
  have hzsz : zv.cells.size = esz := by rw [hzs]; rw [hi] at hsz; simpa using hsz
  unfold clearK at hs
  split at hs
  · rename_i b oo p off dl cap hxa
    have hrow := made_row hzr dl
    rw [hzsz] at hrow
    rw [hxa] at hxv hs
    have hdl : ∀ base len cp, a.eval x' = .slice base len cp → len = dl := by
      intro base len cp hc
      simp only [AV.val, AV.leaf] at hxv
      rcases hxv with ⟨_, _, _, _, rfl, _, base', hc'⟩ | ⟨_, _, _, _, base', c', _, hc', _⟩ <;> (rw [hc] at hc'; simp at hc'; omega)
    obtain ⟨H', w', hz, hst, base, len, cp, hc, hne, h3⟩ := write_sound hr hxv hrow hs (fun base len cp hc => by rw [hdl _ _ _ hc]; simp)
    have hlen := hdl _ _ _ hc
    subst hlen
    have : (execOp a.eval o).run X.P w = .ok (.value (.tuple #[])) w' := by
      rw [run_call_builtin ho]
      simp only [builtin]
      refine run_v ?_
      have h4 := h3 X.P
      simp only [List.getElem?_toArray, Builtin.clear_]
      cases base with
      | none =>
        have h4 : w = w' := by simpa [storeAll] using h4
        subst h4
        simp [hc, run_under ht, Result.andThen]
      | some ad =>
        cases len with
        | zero =>
          have h0 : (Builtin.zeroCells zv.cells 0).toList = [] := by simp [Builtin.zeroCells]
          have h4 : w = w' := by simpa [storeAll, h0, storeCells] using h4
          subst h4
          simp [hc, run_under ht, Result.andThen]
        | succ n =>
          simp only [storeAll] at h4
          simp [hc, Sem.run_bind, run_under ht, Result.andThen, hzrun, h4]
    rw [this]
    exact ⟨_, _, e, H', w', .inl rfl, by simp [AV.val, AV.vals], hst, hz⟩
  · exact hs.elim

theorem op_mksl {esz bytes : Nat} {z : Tr} {l c : Opd} {l' c' : Operand} {t el : TypeId} (hl : chkOpd X.G l l' = true) (hc : chkOpd X.G c c' = true) (ht : X.P.underlying t = some (.slice el)) (hz : zeroOK X.P el z = true)
    (hsz : (X.P.info? el).map (fun i => (i.size, i.bytes)) = some (esz, bytes)) : OpS X (.makeSlice t l' c') (.mksl esz bytes z l c) := by
  intro o ho e H w fr a Q k hr hf hs
  have hlv := chkOpd_val hr hf hl
  have hcv := chkOpd_val hr hf hc
  obtain ⟨zv, i, hi, hiz, hzs, hzr, hzrun⟩ := zeroOK_run hz e.ro
  rw [hi] at hsz
  simp only [Option.map_some, Option.some.injEq, Prod.mk.injEq] at hsz
  obtain ⟨rfl, rfl⟩ := hsz
  simp only [opT, evK_eq] at hs
  obtain ⟨jl, nl, hla, hs⟩ := sat_intK hs
  obtain ⟨jc, nc, hca, hs⟩ := sat_intK hs
  rw [hla] at hlv; rw [hca] at hcv
  have evl := val_int hlv
  have evc := val_int hcv
  obtain ⟨hb, hs⟩ := hs
  obtain ⟨h0, h1, h2, h3⟩ := of_decide_eq_true hb
  rw [newK_eq] at hs
  have hb2 : (i.bytes : Int) * nc ≤ 281474976710656 := by rw [Int.mul_comm]; exact h2
  have hrun := run_make (P := X.P) w t _ i zv ht hi hiz jl jc nl nc h0 h1 hb2 (by omega)
  have hrow := made_row hzr nc.toNat
  rw [hzs] at hrow
  have hcells : Builtin.zeroCells zv.cells nc.toNat = madeCells zv.cells (nc.toNat * i.size) := by simp [Builtin.zeroCells, madeCells, hzs]
  rw [hcells] at hrow
  have : (execOp a.eval o).run X.P w = .ok (.value (.slice (some ⟨w.heap.size, 0, none⟩) nl.toNat nc.toNat)) (w.alloc (.cells (madeCells zv.cells (nc.toNat * i.size)) el)) := by
    simp only [execOp, ho]
    refine run_v ?_
    rw [evl, evc]; exact hrun
  rw [this]
  have hst := Step.new (o := .row i.size (List.replicate nc.toNat z)) (ob := .cells (madeCells zv.cells (nc.toNat * i.size)) el) (esz := i.size) (cap := nc.toNat) (n := some nc.toNat) hr
    ⟨rfl, by simp, _, _, (0, 0), rfl, ⟨Nat.le_refl _, fun j _ => by simp⟩, by simp [size_madeCells], by simp, fun c hc => Tr.row_one hrow c hc, _, [], by simp, hrow⟩
  refine ⟨_, _, _, _, _, .inl rfl, ?_, hst, hs⟩
  simp only [AV.val, AV.leaf]
  exact .inr ⟨_, _, _, _, _, _, e.bind_same _ _, rfl, by omega, fun n' hn' => by obtain rfl := Option.some.inj hn'; simp; omega, rfl, .inr (by simp)⟩

theorem op_s2b {s d el : TypeId} {x : Opd} {x' : Operand} (hx : chkOpd X.G x x' = true) (h1 : X.P.underlying s = some .string) (h2 : X.P.underlying d = some (.slice el)) (h3 : X.P.underlying el = some (.int .u8)) : OpS X (.convert s d x') (.s2b x) := by
  intro o ho e H w fr a Q k hr hf hs
  have hxv := chkOpd_val hr hf hx
  simp only [opT, evK_eq] at hs
  split at hs
  · rename_i s' hxa
    rw [hxa] at hxv
    rw [newK_eq] at hs
    have hrun := run_bytes_of_string (P := X.P) w s d el s' h1 h2 h3
    have : (execOp a.eval o).run X.P w = .ok (.value (.slice (some ⟨w.heap.size, 0, none⟩) s'.size (grownCap w s'.size 0 el))) (w.drew.alloc (.cells (bytesRow s' (grownCap w s'.size 0 el)) el ((bytesRow s' (grownCap w s'.size 0 el)).size, (bytesRow s' (grownCap w s'.size 0 el)).size + 1))) := by
      simp only [execOp, ho]
      refine run_v ?_
      rw [val_str hxv]; exact hrun
    rw [this]
    have hcap := grownCap_ge w s'.size 0 el
    have hsize : s'.data.size = s'.size := rfl
    have hrow : ∀ l : List UInt8, Tr.row e.ro 1 (l.map byteT) (l.map fun b => Value.int .u8 b.toNat) := by
      intro l
      induction l with
      | nil => simp [Tr.row]
      | cons b l ih => simp only [List.map_cons, Tr.row]; exact ⟨[.int .u8 b.toNat], _, rfl, rfl, by simp [byteT, Tr.rel], ih⟩
    have hd := Step.drew hr
    have hst := Step.new (o := .row 1 (s'.data.toList.map byteT)) (ob := .cells (bytesRow s' (grownCap w s'.size 0 el)) el ((bytesRow s' (grownCap w s'.size 0 el)).size, (bytesRow s' (grownCap w s'.size 0 el)).size + 1)) (esz := 1) (cap := grownCap w s'.size 0 el) (n := some (s'.data.toList.map byteT).length) hd.rel
      ⟨rfl, rfl, _, _, _, rfl, ⟨by simp, fun j hj => by simp; omega⟩, by simp [bytesRow, hsize]; omega, by simp [hsize]; exact hcap, by
        intro c hc
        simp only [bytesRow, Array.toList_append, List.mem_append, Array.toList_map, List.mem_map, Array.toList_replicate, List.mem_replicate] at hc
        rcases hc with ⟨b, _, rfl⟩ | ⟨_, rfl⟩ <;> rfl, _, _, by simp only [bytesRow, Array.toList_append, Array.toList_map]; rfl, hrow _⟩
    refine ⟨_, _, _, _, _, .inl rfl, ?_, hd.trans hst, hs⟩
    simp only [AV.val, AV.leaf]
    exact .inr ⟨w.heap.size, 1, grownCap w s'.size 0 el, some (s'.data.toList.map byteT).length, some ⟨w.heap.size, 0, none⟩, grownCap w s'.size 0 el, e.bind_same _ _, by simp [hsize], by simpa [hsize] using hcap, fun n' hn' => by obtain rfl := Option.some.inj hn'; simp, ⟨rfl, rfl, Nat.zero_le _, by simp⟩, .inr (by simp)⟩
  · exact hs.elim

theorem freeze_setBlk {w : World} {k : Nat} {cs : Array Value} {t : TypeId} {fz : Nat × Nat} (h : w.heap[k]? = some (.cells cs t fz)) (n : Nat) :
    w.freeze ⟨k, n, none⟩ 1 = World.setBlk w k (.cells cs t (if fz.1 == fz.2 then (n, n + 1) else (min fz.1 n, max fz.2 (n + 1)))) := by
  unfold World.freeze World.setBlk
  rw [if_neg (by decide)]
  congr 1
  apply Array.ext_getElem?
  intro j
  rw [Array.getElem?_modify, Array.getElem?_setIfInBounds]
  by_cases hj : k = j
  · subst hj
    rw [if_pos rfl, if_pos rfl, h, if_pos (lt_of_heap h)]
    rfl
  · rw [if_neg hj, if_neg hj]
theorem op_mks {s el : TypeId} {x : Opd} {x' : Operand} (hx : chkOpd X.G x x' = true) (h1 : X.P.underlying s = some (.slice el)) (h3 : X.P.underlying el = some (.int .u8)) : OpS X (.convert s s x') (.mks x) := by
  intro o ho e H w fr a Q k hr hf hs
  have hxv := chkOpd_val hr hf hx
  simp only [opT, evK_eq] at hs
  split at hs
  · rename_i b oo p off len cap hxa
    rw [hxa] at hxv
    obtain ⟨hlen, hs⟩ := hs
    have hlen : 0 < len := Nat.le_of_ble_eq_true hlen
    rw [nthK_eq] at hs
    split at hs
    · rename_i ob hob
      split at hs
      · rename_i esz xs
        have hxv0 := hxv
        simp only [AV.val, AV.leaf] at hxv
        rcases hxv with ⟨_, _, _, _, h0, _⟩ | ⟨blk, esz', rc, n, base, c, hβ, hcs, hlc, hn, hcap, hb⟩
        · omega
        have hb := hb.resolve_left (by omega)
        subst hb
        obtain ⟨ob', hob', hrel'⟩ := hr.obj b _ hob (by simp) blk esz' rc n hβ
        obtain ⟨rfl, hn', cs, t, fz, rfl, hz, hsz, hlc2, hon, mid, post, hcs2, hrow⟩ := hrel'
        have hval : a.eval x' = .slice (some ⟨blk, oo + off * esz, none⟩) len c := by simpa using hcs
        have hz' : NoFz cs.size (if fz.1 == fz.2 then (cs.size, cs.size + 1) else (min fz.1 cs.size, max fz.2 (cs.size + 1))) := by
          obtain ⟨z1, z2⟩ := hz
          by_cases hq : fz.1 == fz.2
          · rw [if_pos hq]; exact ⟨by simp, fun i hi => by simp; omega⟩
          · rw [if_neg hq]
            have hq : fz.1 ≠ fz.2 := by simpa using hq
            have : cs.size ≤ fz.1 := by
              rcases Nat.lt_or_ge fz.1 cs.size with hh | hh
              · exact absurd ⟨Nat.le_refl _, by omega⟩ (z2 fz.1 hh)
              · exact hh
            exact ⟨by simp; omega, fun i hi => by simp; omega⟩
        have hst := Step.set hr hob (by simp) hβ (o' := .row esz xs) ⟨rfl, hn', cs, t, _, rfl, hz', hsz, hlc2, hon, mid, post, hcs2, hrow⟩
        have hself : H.set b (.row esz xs) = H := by
          apply List.ext_getElem?
          intro j
          rw [List.getElem?_set]
          by_cases hj : b = j
          · subst hj
            rw [if_pos rfl, if_pos (lt_of_get hob), hob]
          · rw [if_neg hj]
        rw [hself] at hst
        refine ⟨_, _, _, _, _, .inl ?_, hxv0, hst, hs⟩
        simp only [execOp, ho]
        refine run_v ?_
        rw [hval]
        have hsh : w.shape? blk = some (t, cs.size) := by unfold World.shape?; rw [hob']
        simp [convert, run_underlying h1, run_underlying h3, markStringish, hsh]
        have hfz := freeze_setBlk hob' cs.size
        simpa using hfz
      · exact hs.elim
    · exact hs.elim
  · exact hs.elim

theorem strOf_eq (ns : List Int) : ns.foldl (fun (r : ByteArray) n => r.push (UInt8.ofNat n.toNat)) ByteArray.empty = ⟨(ns.map fun n => UInt8.ofNat n.toNat).toArray⟩ := by
  have : ∀ (ns : List Int) (r : ByteArray), ns.foldl (fun (r : ByteArray) n => r.push (UInt8.ofNat n.toNat)) r = ⟨r.data ++ (ns.map fun n => UInt8.ofNat n.toNat).toArray⟩ := by
    intro ns
    induction ns with
    | nil => intro r; simp
    | cons n ns ih => intro r; simp only [List.foldl_cons, ih, List.map_cons]; simp [ByteArray.push]
  rw [this]; simp [ByteArray.empty, ByteArray.emptyWithCapacity]; rfl

theorem elems_str {a : AV} {s : ByteArray} {esz : Nat} {k : List Tr → T} (ha : AV.val e a (.string s)) (h : sat X Q (elemsK esz H a k)) : ∃ s', a = .t (.str s') := by
  unfold elemsK at h
  split at h <;> first
    | exact ⟨_, rfl⟩
    | exact h.elim
    | (simp [AV.val, AV.leaf, Tr.rel, Tr.isAgg] at ha; done)
    | (simp only [AV.val, AV.leaf] at ha; rcases ha with ⟨_, _, _, _, _, _, _, h⟩ | ⟨_, _, _, _, _, _, _, h, _⟩ <;> simp at h)

theorem op_b2s {s d el : TypeId} {x : Opd} {x' : Operand} (hx : chkOpd X.G x x' = true) (h1 : X.P.underlying s = some (.slice el)) (h2 : X.P.underlying d = some .string) (h3 : X.P.underlying el = some (.int .u8)) : OpS0 X (.convert s d x') (.b2s x) := by
  intro o ho e H w fr a Q k hr hf hs
  have hxv := chkOpd_val hr hf hx
  simp only [opT, evK_eq] at hs
  split at hs
  · exact hs.elim
  rename_i hnostr
  have hs0 := hs
  obtain ⟨ys, news, hs, hrow, hform⟩ := elems_sound hr hxv hs
  obtain ⟨hb, hs⟩ := hs
  have hns : ∃ ns : List Int, news = ns.map (Value.int .u8) ∧ strOf ys = ⟨(ns.map fun n => UInt8.ofNat n.toNat).toArray⟩ ∧ ns.length = ys.length := by
    have : ∀ (ys : List Tr) (news : List Value), Tr.row e.ro 1 ys news → ys.all isByte = true → ∃ ns : List Int, news = ns.map (Value.int .u8) ∧ ys.map byteOfT = ns.map (fun n => UInt8.ofNat n.toNat) ∧ ns.length = ys.length := by
      intro ys
      induction ys with
      | nil => intro news h _; simp only [Tr.row] at h; exact ⟨[], by simp [h], rfl, rfl⟩
      | cons y r ih =>
        intro news h hb
        simp only [Tr.row] at h
        simp only [List.all_cons, Bool.and_eq_true] at hb
        obtain ⟨p, q, rfl, _, h5, h6⟩ := h
        obtain ⟨ns, rfl, h7, h8⟩ := ih q h6 hb.2
        unfold isByte at hb
        split at hb
        · rename_i n
          simp only [Tr.rel] at h5
          subst h5
          exact ⟨n :: ns, rfl, by simp [byteOfT, h7], by simp [h8]⟩
        · exact absurd hb.1 (by simp)
    obtain ⟨ns, h4, h5, h6⟩ := this ys news hrow hb
    exact ⟨ns, h4, by rw [strOf, h5], h6⟩
  obtain ⟨ns, rfl, hstr, hnl⟩ := hns
  rcases hform with ⟨base, cap, hc, hn⟩ | ⟨str, hc, _, _, _⟩
  · have : (execOp a.eval o).run X.P w = .ok (.value (.string (strOf ys))) w := by
      simp only [execOp, ho]
      refine run_v ?_
      rw [hc]
      have hconv : ∀ v, (convert s d v).run X.P w = (match v with | .slice _ _ _ => Conv.bytesToString v | _ => convert s d v).run X.P w := by
        intro v
        cases v <;> first | rfl | skip
        simp only [convert, Sem.run_bind, run_under h1, run_under h2, Result.andThen, run_under h3]
      rw [hconv]
      simp only
      cases base with
      | none =>
        have : ns = [] := by
          rcases hn with h | ⟨_, h, _⟩
          · simpa using h
          · cases h
        subst this
        rw [hstr]; simp [Conv.bytesToString]; rfl
      | some ad =>
        rw [run_bytesToString (P := X.P) w ad ys.length cap ns (by
          rcases hn with h | ⟨ad', h, hsp, cs, t, fz, hk, hsub⟩
          · have : ns = [] := by simpa using h
            subst this
            have : ys.length = 0 := by simpa using hnl.symm
            rw [this]; rfl
          · obtain rfl := Option.some.inj h
            have := run_loadCells_sub (P := X.P) hk hsub
            rw [List.length_map, hnl] at this
            rw [addr_eta hsp]; exact this), strOf_eq, hstr]
    rw [this]
    exact Out.same hr (mk_str _ _) hs
  · rw [hc] at hxv
    obtain ⟨s', h⟩ := elems_str hxv hs0
    exact absurd h (hnostr s')
end Stk
