/- Several texts of this claim, joined into one file. -/
import Derived.Test.YthkbahbbdacgeaaDoorZj3
section
/- The framework, part 10: appends, copies, what is made. -/
namespace Stk
open Go
variable {X : Cx} {Q : Ex → Fr → Hp → Prop} {e : Env} {H : Hp} {w : World}

theorem rels_row {m : Nat → Option (List Value)} {esz : Nat} : ∀ {ys : List Tr} {cs : List Value}, Tr.rels m ys cs → Tr.allSz esz ys = true → Tr.row m esz ys cs
  | [], _, h, _ => h
  | y :: ys, cs, h, hs => by
    simp only [Tr.rels] at h
    simp only [Tr.allSz, Bool.and_eq_true] at hs
    obtain ⟨a, b, rfl, h1, h2⟩ := h
    simp only [Tr.row]
    exact ⟨a, b, rfl, by rw [Tr.rel_length h1, beq_eq hs.1], h1, rels_row h2 hs.2⟩

def chkApp (P : Program) (t tx : TypeId) (esz bytes : Nat) : Bool :=
  match P.underlying t with
  | some (.slice el) => (match P.info? el with
    | some i => i.size == esz && i.bytes == bytes && (match i.zero with
      | some z => z.cells.size == esz && z.cells.toList.all Value.oneCell'
      | none => false)
    | none => false) && (match P.underlying tx with
    | some (.slice _) => true
    | some .string => true
    | _ => false)
  | _ => false
theorem chkApp_ty {P : Program} {t tx : TypeId} {esz bytes : Nat} (h : chkApp P t tx esz bytes = true) : ∃ el, AppTy P t tx el esz bytes := by
  unfold chkApp at h
  split at h
  · rename_i el hel
    simp only [Bool.and_eq_true] at h
    obtain ⟨h1, h2⟩ := h
    split at h1
    · rename_i i hi
      simp only [Bool.and_eq_true, beq_iff_eq] at h1
      obtain ⟨⟨h3, h4⟩, h5⟩ := h1
      split at h5
      · rename_i z hz
        simp only [Bool.and_eq_true, beq_iff_eq, List.all_eq_true] at h5
        refine ⟨el, hel, ⟨i, z, hi, h3, h4, hz, h5.1, fun c hc => h5.2 c hc⟩, ?_⟩
        split at h2
        · rename_i e' he'; exact .inl ⟨e', he'⟩
        · rename_i he'; exact .inr he'
        · cases h2
      · cases h5
    · cases h1
  · cases h

theorem sat_app4 {o off : Nat} {p : List Nat} {b : Bool} {K K' : T} (h : sat X Q (match o, p, off, b with
            | 0, [], 0, true => K
            | _, _, _, _ => K')) : (o = 0 ∧ p = [] ∧ off = 0 ∧ b = true ∧ sat X Q K) ∨ sat X Q K' := by
  cases o <;> cases p <;> cases off <;> cases b <;> first | exact .inl ⟨rfl, rfl, rfl, rfl, h⟩ | exact .inr h

theorem op_append {inn : Bool} {esz bytes : Nat} {s x : Opd} {s' x' : Operand} {t tx : TypeId} (hs1 : chkOpd X.G s s' = true) (hx1 : chkOpd X.G x x' = true) (hT : chkApp X.P t tx esz bytes = true) :
    OpS X (.call { callee := .builtin .append, args := #[s', x'], argTypes := #[t, tx] }) (.append inn esz bytes s x) := by
  intro o ho e H w fr a Q k hr hf hs
  have hsv := chkOpd_val hr hf hs1
  have hxv := chkOpd_val hr hf hx1
  obtain ⟨el, hT⟩ := chkApp_ty hT
  simp only [opT, evK_eq] at hs
  have fin {e1 : Env} {H1 : Hp} (s1 : Step X.G e H w e1 H1 w) {ys : List Tr} {news : List Value} (hny : Tr.row e1.ro esz ys news) (hsrc : Go.Src X.P esz tx (a.eval x') ys.length news w) (h : sat X Q (appendK inn esz bytes H1 (s.at fr) ys k)) :
      Out X e H w Q k ((execOp a.eval o).run X.P w) := by
    obtain ⟨v, cv, e', H', w', hrun, hv, hst, hk⟩ := append_sound (ty := o.type) s1.rel hT (AV.val_to (s1.to hr) hsv) hny hsrc h
    have : (execOp a.eval o).run X.P w = .ok (.value cv) w' := by
      rw [run_call_builtin ho]
      simp only [builtin]
      exact run_v (by simpa using hrun)
    rw [this]
    exact ⟨v, cv, e', H', w', .inl rfl, hv, s1.trans hst, hk⟩
  have plain (h : sat X Q (elemsK esz H (x.at fr) fun ys => appendK inn esz bytes H (s.at fr) ys k)) : Out X e H w Q k ((execOp a.eval o).run X.P w) := by
    obtain ⟨ys, news, h, hrow, hform⟩ := elems_sound hr hxv h
    exact fin (Step.refl hr) hrow (src_of hT.kind hrow hform) h
  have main (h : sat X Q (match x.at fr with
      | .sl c o p off len _ => nthK (fun ob => match ob with
          | .var (.agg vs) => match o, p, off, Nat.beq len vs.length with
            | 0, [], 0, true => frzsK H vs fun ys H1 => match Tr.allSz esz ys with
              | true => appendK inn esz bytes H1 (s.at fr) ys k
              | false => .stuck "append: size"
            | _, _, _, _ => elemsK esz H (x.at fr) fun ys => appendK inn esz bytes H (s.at fr) ys k
          | _ => elemsK esz H (x.at fr) fun ys => appendK inn esz bytes H (s.at fr) ys k) c H
      | _ => elemsK esz H (x.at fr) fun ys => appendK inn esz bytes H (s.at fr) ys k)) : Out X e H w Q k ((execOp a.eval o).run X.P w) := by
    split at h
    · rename_i b oo p off len cap hxa
      obtain ⟨ob, hob, h⟩ := sat_nthK h
      split at h
      · rename_i vs
        rcases sat_app4 h with ⟨eo, ep, eoff, hlen, hz⟩ | h
        rotate_left
        · exact plain h
        · have hlen := beq_eq hlen
          subst eo ep eoff
          rw [hxa] at hxv
          simp only [AV.val, AV.leaf] at hxv
          rcases hxv with ⟨hβ, _, _, _, hl0, _, base, hc⟩ | ⟨blk, es, rc, nn, base, cp, hβ, hc, hle, hin, hcap, hbase⟩
          · obtain ⟨es', he' | he'⟩ := hr.virt b _ hob (by simp) hβ <;>
            cases he'
          · obtain ⟨oo, hoo, hrel⟩ := hr.obj b _ hob (by simp) _ _ _ _ hβ
            obtain ⟨_, rfl, cs, tt, fz, rfl, hvr, _⟩ := hrel
            simp only [AV.rel] at hvr
            obtain ⟨ys, e1, H1, h, s1, hys, hvl⟩ := frzs_sound hr hvr hz
            obtain ⟨hall, h⟩ := sat_t h
            have hrow := rels_row hys hall
            refine fin s1 hrow (src_of hT.kind hrow (.inl ⟨base, cp, ?_, ?_⟩)) h
            · rw [hvl, ← hlen]; simpa using hc
            · rcases hbase with h0 | rfl
              · left
                have : ys.length = 0 := by omega
                have : ys = [] := List.length_eq_zero_iff.1 this
                subst this; simpa [Tr.row] using hrow
              · right; exact ⟨_, rfl, rfl, cs, tt, fz, hoo, by simpa using Sub.refl cs.toList⟩
      · exact plain h
    · exact plain h
  split at hs
  · exact main hs
  · exact main hs
  · exact hs.elim

theorem zeroCells_succ (zs : Array Value) (n : Nat) : (Builtin.zeroCells zs (n + 1)).toList = zs.toList ++ (Builtin.zeroCells zs n).toList := by
  by_cases hz : zs.size = 0
  · have : zs = #[] := Array.size_eq_zero_iff.1 hz
    subst this; simp [Builtin.zeroCells]
  have hpos : 0 < zs.size := by omega
  have hget : ∀ n j, (Builtin.zeroCells zs n).toList[j]? = if j < n * zs.size then zs[j % zs.size]? else none := by
    intro n j
    simp only [Builtin.zeroCells, Array.toList_map, List.getElem?_map]
    by_cases hj : j < n * zs.size
    · rw [if_pos hj]
      have : (Array.range (n * zs.size)).toList[j]? = some j := by simp [hj]
      have hlt := Nat.mod_lt j hpos
      rw [this, Array.getElem?_eq_getElem hlt]
      simp [getElem!_pos zs (j % zs.size) hlt]
    · rw [if_neg hj]
      have : (Array.range (n * zs.size)).toList[j]? = none := by
        rw [List.getElem?_eq_none]; simp; omega
      rw [this]; rfl
  apply List.ext_getElem?
  intro j
  rw [hget, List.getElem?_append]
  simp only [Array.length_toList]
  by_cases hj : j < zs.size
  · rw [if_pos hj, if_pos (by rw [Nat.succ_mul]; omega), Nat.mod_eq_of_lt hj]; simp
  · rw [if_neg hj, hget, Nat.succ_mul]
    have : (j - zs.size) % zs.size = j % zs.size := by
      have := Nat.mod_eq_sub_mod (a := j) (b := zs.size) (by omega)
      exact this.symm
    rw [this]
    by_cases h2 : j < n * zs.size + zs.size
    · rw [if_pos h2, if_pos (by omega)]
    · rw [if_neg h2, if_neg (by omega)]

theorem made_row {m : Nat → Option (List Value)} {z : Tr} {zs : Array Value} (h : Tr.rel m z zs.toList) : ∀ n, Tr.row m zs.size (List.replicate n z) (Builtin.zeroCells zs n).toList
  | 0 => by simp [Tr.row, Builtin.zeroCells]
  | n + 1 => by
    rw [zeroCells_succ]
    simp only [List.replicate_succ, Tr.row]
    exact ⟨zs.toList, _, rfl, by simp, h, made_row h n⟩

/-! ### Writing -/
def storeAll (base : Option Addr) (news : List Value) : Sem Unit :=
  match base with
  | some ad => storeCells ad news
  | none => pure ()
theorem write_sound (hr : Rel X.G e H w) {d : AV} {cd : Value} (hd : AV.val e d cd) {esz : Nat} {ys : List Tr} {news : List Value} (hny : Tr.row e.ro esz ys news) {k : Hp → T} (h : sat X Q (writeK esz H d ys k))
    (hlen : ∀ base len cp, cd = .slice base len cp → ys.length ≤ len) :
    ∃ H' w', sat X Q (k H') ∧ Step X.G e H w e H' w' ∧ ∃ base len cp, cd = .slice base len cp ∧ (news ≠ [] → base ≠ none) ∧ ∀ P : Program, (storeAll base news).run P w = .ok () w' := by
  have hl := Tr.row_length hny
  unfold writeK at h
  split at h
  · rename_i b o p off len cap
    obtain ⟨ob, hob, h⟩ := sat_nthK h
    simp only [AV.val, AV.leaf] at hd
    cases ob with
    | map _ => exact h.elim
    | gone => exact h.elim
    | mapI es i => exact h.elim
    | iter m es left last => exact h.elim
    | dr e' ms h' => exact h.elim
    | row es xs =>
      have h' : p = [] ∧ Nat.beq es esz = true ∧ sat X Q (setK (.row es (over xs off ys)) b H k) := by
        cases p with
        | nil =>
          simp only at h
          cases hb : Nat.beq es esz with
          | true => rw [hb] at h; exact ⟨rfl, rfl, h⟩
          | false => rw [hb] at h; exact h.elim
        | cons _ _ => exact h.elim
      obtain ⟨hp0, he, hz⟩ := h'
      have he := beq_eq he
      subst hp0 he
      obtain ⟨_, hk⟩ := sat_setK hz
      have noth (hys : ys = []) : H.set b (.row es (over xs off ys)) = H := by
        subst hys
        apply List.ext_getElem?
        intro j
        rw [List.getElem?_set]
        by_cases hj : b = j
        · subst hj; rw [if_pos rfl, if_pos (lt_of_get hob), hob]; simp [over]
        · rw [if_neg hj]
      rcases hd with ⟨hβ, rfl, _, rfl, rfl, hcp, base, hc⟩ | ⟨blk, es', rc, nn, base, cp, hβ, hc, hle, hin, hcap, hbase⟩
      · have hc : cd = .slice base 0 0 := by simpa using hc
        have hys : ys = [] := by rw [← List.length_eq_zero_iff]; have := hlen _ _ _ hc; omega
        have hnews : news = [] := by subst hys; simpa [Tr.row] using hny
        refine ⟨_, w, hk, by rw [noth hys]; exact Step.refl hr, base, 0, 0, hc, fun hh => absurd hnews hh, fun P => ?_⟩
        subst hnews; cases base <;> rfl
      · have hc : cd = .slice base len cp := by simpa using hc
        have hyl := hlen _ _ _ hc
        obtain ⟨oo, hoo, hrel⟩ := hr.obj b _ hob (by simp) _ _ _ _ hβ
        obtain ⟨rfl, hn, cc, tt, fz, rfl, hfz, hcsz, hxc, hones, mid, post, hcs, hrow⟩ := hrel
        obtain ⟨hin1, rfl, hin2⟩ := hin _ hn
        by_cases hys : ys = []
        · have hnews : news = [] := by subst hys; simpa [Tr.row] using hny
          refine ⟨_, w, hk, by rw [noth hys]; exact Step.refl hr, base, len, cp, hc, fun hh => absurd hnews hh, fun P => ?_⟩
          subst hnews; cases base <;> rfl
        · have hpos : 0 < ys.length := List.length_pos_iff.2 hys
          have hb1 : base = some ⟨blk, 0 + off * es, none⟩ := by
            rcases hbase with hz0 | hz0
            · omega
            · exact hz0
          subst hb1
          have hml := Tr.row_length hrow
          have hs0 : Sub cc.toList 0 mid := ⟨[], post, by simpa using hcs, rfl⟩
          have hfit : off * es + news.length ≤ cc.size := by
            rw [hl, ← Nat.add_mul, hcsz]; exact Nat.mul_le_mul_right _ (by omega)
          have hsub : Sub mid (off * es) ((mid.drop (off * es)).take news.length) := by
            refine ⟨mid.take (off * es), (mid.drop (off * es)).drop news.length, ?_, ?_⟩
            · rw [List.take_append_drop, List.take_append_drop]
            · rw [List.length_take, Nat.min_eq_left]; rw [hml]; exact Nat.mul_le_mul_right _ (by omega)
          have hsl : ((mid.drop (off * es)).take news.length).length = news.length := by
            rw [List.length_take, List.length_drop, Nat.min_eq_left]
            rw [hml, hl, ← Nat.sub_mul]; exact Nat.mul_le_mul_right _ (by omega)
          have hover : over cc.toList (off * es) news = over mid (off * es) news ++ post := by
            have := over_over hs0 hsub (mid' := news) hsl.symm
            rw [Nat.zero_add] at this
            rw [← this]
            have hl2 : (over mid (off * es) news).length = mid.length := over_length _ _ _ (by have := hsub.len; omega)
            have h3 := over_pre (pre := []) (mid := mid) (post := post) hl2
            rw [hcs]
            simpa using h3
          have hcl : (over cc.toList (off * es) news).length = cc.toList.length := over_length _ _ _ (by simpa using hfit)
          have hrow' := Tr.row_over hrow hny off (by omega)
          have hstep := Step.set hr hob (by simp) hβ (o' := .row es (over xs off ys)) (ob' := .cells (over cc.toList (off * es) news).toArray tt fz)
            ⟨rfl, by rw [hn, over_length _ _ _ (by omega)], _, tt, fz, rfl, by rw [List.size_toArray, hcl]; simpa using hfz, by rw [List.size_toArray, hcl]; simpa using hcsz, by rw [over_length _ _ _ (by omega)]; exact hxc, by
              intro c1 hc1
              simp only [over, List.mem_append] at hc1
              rcases hc1 with (hc1 | hc1) | hc1
              · exact hones c1 (List.mem_of_mem_take hc1)
              · exact Tr.row_one hny c1 hc1
              · exact hones c1 (List.mem_of_mem_drop hc1), _, post, by simpa using hover, hrow'⟩
          refine ⟨_, _, hk, hstep, _, len, cp, hc, fun _ => by simp, fun P => ?_⟩
          have := run_storeCells_over (P := P) (k := blk) (t := tt) (fz := fz) (off * es) news 0 cc w hoo hfz (by simpa using hfit) (fun u hu => Tr.row_one hny u hu)
          simpa [storeAll] using this
    | var v =>
      obtain ⟨y, d, hp, h⟩ := sat_getA h
      simp only [Nat.zero_add] at h
      split at h
      · rename_i m xs hod hesz
        have hod := beq_eq hod
        have hesz := beq_eq hesz
        obtain ⟨hb, hz⟩ := h
        simp only [Bool.and_eq_true, decide_eq_true_eq, Bool.not_eq_true'] at hb
        subst hod hesz
        obtain ⟨v', hv', h7⟩ := sat_setA hz
        obtain ⟨_, h6⟩ := sat_setK h7
        rcases hd with ⟨hβ, _⟩ | ⟨blk, es', rc, nn, base, cp, hβ, hc, hle, hin, hcap, hbase⟩
        · obtain ⟨es', he' | he'⟩ := hr.virt b _ hob (by simp) hβ <;>
          cases he'
        · have hc : cd = .slice base len cp := by simpa using hc
          have hyl := hlen _ _ _ hc
          obtain ⟨oo, hoo, hrel⟩ := hr.obj b _ hob (by simp) _ _ _ _ hβ
          obtain ⟨hnn, rfl, cs, t, fz, rfl, hvr, hfz⟩ := hrel
          obtain ⟨mid, hs, hy, hu⟩ := pathA_sound (y := .t (.arr m (over xs off ys))) hp hvr
          simp only [AV.rel, AV.leaf, Tr.rel] at hy
          have hol := Tr.ones_length hy.2
          have honesY : Tr.ones e.ro ys news := by
            have hna : ∀ y ∈ ys, y.isAgg = false := by
              intro y hy'
              have := hb.2
              rw [List.any_eq_false] at this
              simpa using this y hy'
            have : ∀ (ys : List Tr) (news : List Value), Tr.row e.ro 1 ys news → (∀ y ∈ ys, y.isAgg = false) → Tr.ones e.ro ys news := by
              intro ys
              induction ys with
              | nil => intro news h _; exact h
              | cons y r ih =>
                intro news h hna
                simp only [Tr.row] at h
                obtain ⟨a, b, rfl, h1, h2, h3⟩ := h
                match a, h1, h2 with
                | [c], _, h2 => simp only [Tr.ones]; exact ⟨c, b, rfl, hna y (by simp), h2, ih b h3 fun z hz => hna z (by simp [hz])⟩
            exact this ys news hny hna
          have hnl : news.length = ys.length := by simpa using hl
          have hnew : Tr.ones e.ro (over xs off ys) (over mid off news) := by
            have e1 : xs = xs.take off ++ ((xs.drop off).take ys.length ++ (xs.drop off).drop ys.length) := by rw [List.take_append_drop, List.take_append_drop]
            have h1 := hy.2
            rw [e1] at h1
            obtain ⟨a, b, hab, ha, hb'⟩ := Tr.ones_split h1
            obtain ⟨c, d', rfl, hc', hd'⟩ := Tr.ones_split hb'
            have la := Tr.ones_length ha
            have lc := Tr.ones_length hc'
            have : over mid off news = a ++ (news ++ d') := by
              subst hab
              have hla : a.length = off := by rw [la, List.length_take, Nat.min_eq_left (by omega)]
              have hlc : news.length = c.length := by rw [lc, hnl, List.length_take, List.length_drop, Nat.min_eq_left (by omega)]
              rw [← hla]; exact over_pre hlc
            rw [this]
            have e3 : over xs off ys = xs.take off ++ (ys ++ (xs.drop off).drop ys.length) := by simp [over]
            rw [e3]
            exact Tr.ones_append ha (Tr.ones_append honesY hd')
          have hsub : Sub mid off ((mid.drop off).take news.length) := by
            refine ⟨mid.take off, (mid.drop off).drop news.length, ?_, ?_⟩
            · rw [List.take_append_drop, List.take_append_drop]
            · rw [List.length_take, Nat.min_eq_left]; omega
          have hsl : ((mid.drop off).take news.length).length = news.length := by
            rw [List.length_take, List.length_drop, Nat.min_eq_left]; omega
          have hml2 : (over mid off news).length = mid.length := over_length _ _ _ (by omega)
          have hnew2 := hu v' hv' (over mid off news) (by simp only [AV.rel, AV.leaf, Tr.rel]; exact ⟨by rw [over_length _ _ _ (by omega)]; exact hy.1, hnew⟩) hml2
          rw [over_over hs hsub hsl.symm] at hnew2
          have hcl : (over cs.toList (o + off) news).length = cs.toList.length := over_length _ _ _ (by have := (hs.trans hsub).len; omega)
          by_cases hys : ys = []
          · have hnews : news = [] := by subst hys; simpa [Tr.row] using hny
            subst hnews
            have e1 : over cs.toList (o + off) [] = cs.toList := by simp [over]
            rw [e1] at hnew2
            have hstep := Step.set hr hob (by simp) hβ (o' := .var v') (ob' := .cells cs t fz) ⟨hnn, rfl, cs, t, fz, rfl, hnew2, hfz⟩
            rw [setBlk_self hoo] at hstep
            refine ⟨_, w, h6, hstep, base, len, cp, hc, fun hh => absurd rfl hh, fun P => ?_⟩
            cases base <;> rfl
          · have hpos : 0 < ys.length := List.length_pos_iff.2 hys
            have hb1 : base = some ⟨blk, o + off * 1, none⟩ := by
              rcases hbase with hz0 | hz0
              · omega
              · exact hz0
            subst hb1
            have hstep := Step.set hr hob (by simp) hβ (o' := .var v') (ob' := .cells (over cs.toList (o + off) news).toArray t fz)
              ⟨hnn, rfl, _, t, fz, rfl, by simpa using hnew2, by rw [List.size_toArray, hcl]; simpa using hfz⟩
            refine ⟨_, _, h6, hstep, _, len, cp, hc, fun _ => by simp, fun P => ?_⟩
            have := run_storeCells_over (P := P) (k := blk) (t := t) (fz := fz) (o + off) news 0 cs w hoo hfz (by have := (hs.trans hsub).len; simp at this; omega) (fun u hu => Tr.row_one hny u hu)
            simpa [storeAll] using this
      · exact h.elim
  · exact h.elim

/-- A source, for copy. -/
theorem op_copy {esz : Nat} {d s : Opd} {d' s' : Operand} {t tx el : TypeId} (hd1 : chkOpd X.G d d' = true) (hs1 : chkOpd X.G s s' = true) (ht : X.P.underlying t = some (.slice el)) (hsz : (X.P.info? el).map (·.size) = some esz) :
    OpS X (.call { callee := .builtin .copy, args := #[d', s'], argTypes := #[t, tx] }) (.copy esz d s) := by
  intro o ho e H w fr a Q k hr hf hs
  have hdv := chkOpd_val hr hf hd1
  have hsv := chkOpd_val hr hf hs1
  simp only [opT, evK_eq] at hs
  -- what the source yields, cut
  have cut {ys : List Tr} {news : List Value} {c : Value} (hrow : Tr.row e.ro esz ys news)
      (hform : (∃ base cap, c = .slice base ys.length cap ∧ (news = [] ∨ ∃ ad, base = some ad ∧ ad.spot = none ∧ ∃ cs t fz, w.heap[ad.block]? = some (.cells cs t fz) ∧ Sub cs.toList ad.off news)) ∨ (∃ s, c = .string s ∧ esz = 1 ∧ ys.length = s.size ∧ news = byteCells s)) (dl : Nat) :
      ∃ n2, Tr.row e.ro esz (ys.take dl) n2 ∧ (Builtin.lenOf c).run X.P w = .ok ys.length w ∧ (Builtin.firstCells esz (min ys.length dl) c).run X.P w = .ok n2.toArray w := by
    obtain ⟨n2, hs2, hr2⟩ := Tr.row_cut hrow 0 dl
    simp only [Nat.zero_min, Nat.zero_mul, List.drop_zero] at hs2 hr2
    have hl2 := Tr.row_length hr2
    have hlt : (ys.take dl).length = min ys.length dl := by simp [Nat.min_comm]
    rw [hlt] at hl2
    refine ⟨n2, hr2, ?_, ?_⟩
    · rcases hform with ⟨base, cap, rfl, _⟩ | ⟨s, rfl, _, h1, _⟩
      · rfl
      · rw [h1]; rfl
    · rcases hform with ⟨base, cap, rfl, hn⟩ | ⟨s, rfl, rfl, h1, rfl⟩
      · rcases hn with rfl | ⟨ad, rfl, hsp, cs, t, fz, hk, hsub⟩
        · have : n2 = [] := by
            obtain ⟨p, q, h1, _⟩ := hs2
            have := congrArg List.length h1
            simp at this
            exact List.length_eq_zero_iff.1 (by omega)
          subst this
          have h0 : min ys.length dl * esz = 0 := by simpa using hl2.symm
          cases base with
          | none => rfl
          | some ad => simp only [Builtin.firstCells, h0]; rfl
        · have := run_loadCells_sub (P := X.P) hk (hsub.trans hs2)
          simp only [Builtin.firstCells, ← hl2]
          rw [addr_eta hsp]; simpa using this
      · have hn2 : n2 = (byteCells s).take (min ys.length dl) := by
          have := hs2.eq
          rw [List.drop_zero, hl2, Nat.mul_one] at this
          exact this.symm
        rw [hn2]
        simp only [Builtin.firstCells]
        simp only [Sem.run_pure]
        congr 1
        apply Array.ext'
        simp only [byteCells, Array.toList_map, ByteArray.data_extract, Array.toList_extract, List.extract_eq_take_drop, List.drop_zero, Nat.sub_zero]
        rw [← List.map_take]
  have run {base : Option Addr} {dl cp : Nat} {n : Nat} {c : Value} {n2 : List Value} {w' : World} (hc : a.eval d' = .slice base dl cp) (h1 : (Builtin.lenOf (a.eval s')).run X.P w = .ok n w)
      (h2 : (Builtin.firstCells esz (min n dl) (a.eval s')).run X.P w = .ok n2.toArray w) (h3 : (storeAll base n2).run X.P w = .ok () w') (_ : c = c) : (execOp a.eval o).run X.P w = .ok (.value (.int .i64 (min n dl : Nat))) w' := by
    rw [run_call_builtin ho]
    simp only [builtin]
    refine run_v ?_
    have e1 : Nat.min n dl = min n dl := rfl
    simp only [List.getElem?_toArray, Builtin.copy_]
    cases base with
    | none =>
      have h3 : w = w' := by simpa [storeAll] using h3
      subst h3
      simp [hc, Sem.run_bind, run_under ht, Result.andThen, h1, run_sizeOf hsz, e1, h2, goInt]
    | some ad =>
      simp only [storeAll] at h3
      simp [hc, Sem.run_bind, run_under ht, Result.andThen, h1, run_sizeOf hsz, e1, h2, goInt, h3]
  unfold copyK at hs
  split at hs
  · rename_i b oo p off dl cap hda
    rw [hda] at hs
    obtain ⟨ys, news, hs, hrow, hform⟩ := elems_sound hr hsv hs
    obtain ⟨n2, hr2, h1, h2⟩ := cut hrow hform dl
    rw [hda] at hdv
    have hdl : ∀ base len cp, a.eval d' = .slice base len cp → len = dl := by
      intro base len cp hc
      simp only [AV.val, AV.leaf] at hdv
      rcases hdv with ⟨_, _, _, _, rfl, _, base', hc'⟩ | ⟨_, _, _, _, base', c', _, hc', _⟩ <;> (rw [hc] at hc'; simp at hc'; omega)
    obtain ⟨H', w', hs, hst, base, len, cp, hc, hne, h3⟩ := write_sound hr hdv hr2 hs (fun base len cp hc => by rw [hdl _ _ _ hc]; simp; omega)
    have hlen := hdl _ _ _ hc
    subst hlen
    rw [run (c := a.eval s') hc h1 h2 (h3 X.P) rfl]
    exact ⟨_, _, e, H', w', .inl rfl, mk_int _ _ _, hst, hs⟩
  · exact hs.elim

theorem op_clear {esz : Nat} {z : Tr} {x : Opd} {x' : Operand} {t el : TypeId} (hx : chkOpd X.G x x' = true) (ht : X.P.underlying t = some (.slice el)) (hz : zeroOK X.P el z = true) (hsz : (X.P.info? el).map (·.size) = some esz) :
    OpS X (.call { callee := .builtin .clear, args := #[x'], argTypes := #[t] }) (.clear esz z x) := by
  intro o ho e H w fr a Q k hr hf hs
  have hxv := chkOpd_val hr hf hx
  simp only [opT, evK_eq] at hs
  obtain ⟨zv, i, hi, _, hzs, hzr, hzrun⟩ := zeroOK_run hz e.ro
  have hzsz : zv.cells.size = esz := by rw [hzs]; rw [hi] at hsz; simpa using hsz
  unfold clearK at hs
  split at hs
  · rename_i b oo p off dl cap hxa
    have hrow := made_row hzr dl
    rw [hzsz] at hrow
    rw [hxa] at hxv hs
    have hdl : ∀ base len cp, a.eval x' = .slice base len cp → len = dl := by
      intro base len cp hc
      simp only [AV.val, AV.leaf] at hxv
      rcases hxv with ⟨_, _, _, _, rfl, _, base', hc'⟩ | ⟨_, _, _, _, base', c', _, hc', _⟩ <;> (rw [hc] at hc'; simp at hc'; omega)
    obtain ⟨H', w', hz, hst, base, len, cp, hc, hne, h3⟩ := write_sound hr hxv hrow hs (fun base len cp hc => by rw [hdl _ _ _ hc]; simp)
    have hlen := hdl _ _ _ hc
    subst hlen
    have : (execOp a.eval o).run X.P w = .ok (.value (.tuple #[])) w' := by
      rw [run_call_builtin ho]
      simp only [builtin]
      refine run_v ?_
      have h4 := h3 X.P
      simp only [List.getElem?_toArray, Builtin.clear_]
      cases base with
      | none =>
        have h4 : w = w' := by simpa [storeAll] using h4
        subst h4
        simp [hc, run_under ht, Result.andThen]
      | some ad =>
        cases len with
        | zero =>
          have h0 : (Builtin.zeroCells zv.cells 0).toList = [] := by simp [Builtin.zeroCells]
          have h4 : w = w' := by simpa [storeAll, h0, storeCells] using h4
          subst h4
          simp [hc, run_under ht, Result.andThen]
        | succ n =>
          simp only [storeAll] at h4
          simp [hc, Sem.run_bind, run_under ht, Result.andThen, hzrun, h4]
    rw [this]
    exact ⟨_, _, e, H', w', .inl rfl, by simp [AV.val, AV.vals], hst, hz⟩
  · exact hs.elim

theorem op_mksl {esz bytes : Nat} {z : Tr} {l c : Opd} {l' c' : Operand} {t el : TypeId} (hl : chkOpd X.G l l' = true) (hc : chkOpd X.G c c' = true) (ht : X.P.underlying t = some (.slice el)) (hz : zeroOK X.P el z = true)
    (hsz : (X.P.info? el).map (fun i => (i.size, i.bytes)) = some (esz, bytes)) : OpS X (.makeSlice t l' c') (.mksl esz bytes z l c) := by
  intro o ho e H w fr a Q k hr hf hs
  have hlv := chkOpd_val hr hf hl
  have hcv := chkOpd_val hr hf hc
  obtain ⟨zv, i, hi, hiz, hzs, hzr, hzrun⟩ := zeroOK_run hz e.ro
  rw [hi] at hsz
  simp only [Option.map_some, Option.some.injEq, Prod.mk.injEq] at hsz
  obtain ⟨rfl, rfl⟩ := hsz
  simp only [opT, evK_eq] at hs
  obtain ⟨jl, nl, hla, hs⟩ := sat_intK hs
  obtain ⟨jc, nc, hca, hs⟩ := sat_intK hs
  rw [hla] at hlv; rw [hca] at hcv
  have evl := val_int hlv
  have evc := val_int hcv
  obtain ⟨hb, hs⟩ := hs
  obtain ⟨h0, h1, h2, h3⟩ := of_decide_eq_true hb
  rw [newK_eq] at hs
  have hb2 : (i.bytes : Int) * nc ≤ 281474976710656 := by rw [Int.mul_comm]; exact h2
  have hrun := run_make (P := X.P) w t _ i zv ht hi hiz jl jc nl nc h0 h1 hb2 (by omega)
  have hrow := made_row hzr nc.toNat
  rw [hzs] at hrow
  have hcells : Builtin.zeroCells zv.cells nc.toNat = madeCells zv.cells (nc.toNat * i.size) := by simp [Builtin.zeroCells, madeCells, hzs]
  rw [hcells] at hrow
  have : (execOp a.eval o).run X.P w = .ok (.value (.slice (some ⟨w.heap.size, 0, none⟩) nl.toNat nc.toNat)) (w.alloc (.cells (madeCells zv.cells (nc.toNat * i.size)) el)) := by
    simp only [execOp, ho]
    refine run_v ?_
    rw [evl, evc]; exact hrun
  rw [this]
  have hst := Step.new (o := .row i.size (List.replicate nc.toNat z)) (ob := .cells (madeCells zv.cells (nc.toNat * i.size)) el) (esz := i.size) (cap := nc.toNat) (n := some nc.toNat) hr
    ⟨rfl, by simp, _, _, (0, 0), rfl, ⟨Nat.le_refl _, fun j _ => by simp⟩, by simp [size_madeCells], by simp, fun c hc => Tr.row_one hrow c hc, _, [], by simp, hrow⟩
  refine ⟨_, _, _, _, _, .inl rfl, ?_, hst, hs⟩
  simp only [AV.val, AV.leaf]
  exact .inr ⟨_, _, _, _, _, _, e.bind_same _ _, rfl, by omega, fun n' hn' => by obtain rfl := Option.some.inj hn'; simp; omega, rfl, .inr (by simp)⟩

theorem op_s2b {s d el : TypeId} {x : Opd} {x' : Operand} (hx : chkOpd X.G x x' = true) (h1 : X.P.underlying s = some .string) (h2 : X.P.underlying d = some (.slice el)) (h3 : X.P.underlying el = some (.int .u8)) : OpS X (.convert s d x') (.s2b x) := by
  intro o ho e H w fr a Q k hr hf hs
  have hxv := chkOpd_val hr hf hx
  simp only [opT, evK_eq] at hs
  split at hs
  · rename_i s' hxa
    rw [hxa] at hxv
    rw [newK_eq] at hs
    have hrun := run_bytes_of_string (P := X.P) w s d el s' h1 h2 h3
    have : (execOp a.eval o).run X.P w = .ok (.value (.slice (some ⟨w.heap.size, 0, none⟩) s'.size (grownCap w s'.size 0 el))) (w.drew.alloc (.cells (bytesRow s' (grownCap w s'.size 0 el)) el ((bytesRow s' (grownCap w s'.size 0 el)).size, (bytesRow s' (grownCap w s'.size 0 el)).size + 1))) := by
      simp only [execOp, ho]
      refine run_v ?_
      rw [val_str hxv]; exact hrun
    rw [this]
    have hcap := grownCap_ge w s'.size 0 el
    have hsize : s'.data.size = s'.size := rfl
    have hrow : ∀ l : List UInt8, Tr.row e.ro 1 (l.map byteT) (l.map fun b => Value.int .u8 b.toNat) := by
      intro l
      induction l with
      | nil => simp [Tr.row]
      | cons b l ih => simp only [List.map_cons, Tr.row]; exact ⟨[.int .u8 b.toNat], _, rfl, rfl, by simp [byteT, Tr.rel], ih⟩
    have hd := Step.drew hr
    have hst := Step.new (o := .row 1 (s'.data.toList.map byteT)) (ob := .cells (bytesRow s' (grownCap w s'.size 0 el)) el ((bytesRow s' (grownCap w s'.size 0 el)).size, (bytesRow s' (grownCap w s'.size 0 el)).size + 1)) (esz := 1) (cap := grownCap w s'.size 0 el) (n := some (s'.data.toList.map byteT).length) hd.rel
      ⟨rfl, rfl, _, _, _, rfl, ⟨by simp, fun j hj => by simp; omega⟩, by simp [bytesRow, hsize]; omega, by simp [hsize]; exact hcap, by
        intro c hc
        simp only [bytesRow, Array.toList_append, List.mem_append, Array.toList_map, List.mem_map, Array.toList_replicate, List.mem_replicate] at hc
        rcases hc with ⟨b, _, rfl⟩ | ⟨_, rfl⟩ <;> rfl, _, _, by simp only [bytesRow, Array.toList_append, Array.toList_map]; rfl, hrow _⟩
    refine ⟨_, _, _, _, _, .inl rfl, ?_, hd.trans hst, hs⟩
    simp only [AV.val, AV.leaf]
    exact .inr ⟨w.heap.size, 1, grownCap w s'.size 0 el, some (s'.data.toList.map byteT).length, some ⟨w.heap.size, 0, none⟩, grownCap w s'.size 0 el, e.bind_same _ _, by simp [hsize], by simpa [hsize] using hcap, fun n' hn' => by obtain rfl := Option.some.inj hn'; simp, ⟨rfl, rfl, Nat.zero_le _, by simp⟩, .inr (by simp)⟩
  · exact hs.elim

theorem freeze_setBlk {w : World} {k : Nat} {cs : Array Value} {t : TypeId} {fz : Nat × Nat} (h : w.heap[k]? = some (.cells cs t fz)) (n : Nat) :
    w.freeze ⟨k, n, none⟩ 1 = World.setBlk w k (.cells cs t (if fz.1 == fz.2 then (n, n + 1) else (min fz.1 n, max fz.2 (n + 1)))) := by
  unfold World.freeze World.setBlk
  rw [if_neg (by decide)]
  congr 1
  apply Array.ext_getElem?
  intro j
  rw [Array.getElem?_modify, Array.getElem?_setIfInBounds]
  by_cases hj : k = j
  · subst hj
    rw [if_pos rfl, if_pos rfl, h, if_pos (lt_of_heap h)]
    rfl
  · rw [if_neg hj, if_neg hj]
theorem op_mks {s el : TypeId} {x : Opd} {x' : Operand} (hx : chkOpd X.G x x' = true) (h1 : X.P.underlying s = some (.slice el)) (h3 : X.P.underlying el = some (.int .u8)) : OpS X (.convert s s x') (.mks x) := by
  intro o ho e H w fr a Q k hr hf hs
  have hxv := chkOpd_val hr hf hx
  simp only [opT, evK_eq] at hs
  split at hs
  · rename_i b oo p off len cap hxa
    rw [hxa] at hxv
    obtain ⟨hlen, hs⟩ := hs
    have hlen : 0 < len := Nat.le_of_ble_eq_true hlen
    rw [nthK_eq] at hs
    split at hs
    · rename_i ob hob
      split at hs
      · rename_i esz xs
        have hxv0 := hxv
        simp only [AV.val, AV.leaf] at hxv
        rcases hxv with ⟨_, _, _, _, h0, _⟩ | ⟨blk, esz', rc, n, base, c, hβ, hcs, hlc, hn, hcap, hb⟩
        · omega
        have hb := hb.resolve_left (by omega)
        subst hb
        obtain ⟨ob', hob', hrel'⟩ := hr.obj b _ hob (by simp) blk esz' rc n hβ
        obtain ⟨rfl, hn', cs, t, fz, rfl, hz, hsz, hlc2, hon, mid, post, hcs2, hrow⟩ := hrel'
        have hval : a.eval x' = .slice (some ⟨blk, oo + off * esz, none⟩) len c := by simpa using hcs
        have hz' : NoFz cs.size (if fz.1 == fz.2 then (cs.size, cs.size + 1) else (min fz.1 cs.size, max fz.2 (cs.size + 1))) := by
          obtain ⟨z1, z2⟩ := hz
          by_cases hq : fz.1 == fz.2
          · rw [if_pos hq]; exact ⟨by simp, fun i hi => by simp; omega⟩
          · rw [if_neg hq]
            have hq : fz.1 ≠ fz.2 := by simpa using hq
            have : cs.size ≤ fz.1 := by
              rcases Nat.lt_or_ge fz.1 cs.size with hh | hh
              · exact absurd ⟨Nat.le_refl _, by omega⟩ (z2 fz.1 hh)
              · exact hh
            exact ⟨by simp; omega, fun i hi => by simp; omega⟩
        have hst := Step.set hr hob (by simp) hβ (o' := .row esz xs) ⟨rfl, hn', cs, t, _, rfl, hz', hsz, hlc2, hon, mid, post, hcs2, hrow⟩
        have hself : H.set b (.row esz xs) = H := by
          apply List.ext_getElem?
          intro j
          rw [List.getElem?_set]
          by_cases hj : b = j
          · subst hj
            rw [if_pos rfl, if_pos (lt_of_get hob), hob]
          · rw [if_neg hj]
        rw [hself] at hst
        refine ⟨_, _, _, _, _, .inl ?_, hxv0, hst, hs⟩
        simp only [execOp, ho]
        refine run_v ?_
        rw [hval]
        have hsh : w.shape? blk = some (t, cs.size) := by unfold World.shape?; rw [hob']
        simp [convert, run_underlying h1, run_underlying h3, markStringish, hsh]
        have hfz := freeze_setBlk hob' cs.size
        simpa using hfz
      · exact hs.elim
    · exact hs.elim
  · exact hs.elim

theorem strOf_eq (ns : List Int) : ns.foldl (fun (r : ByteArray) n => r.push (UInt8.ofNat n.toNat)) ByteArray.empty = ⟨(ns.map fun n => UInt8.ofNat n.toNat).toArray⟩ := by
  have : ∀ (ns : List Int) (r : ByteArray), ns.foldl (fun (r : ByteArray) n => r.push (UInt8.ofNat n.toNat)) r = ⟨r.data ++ (ns.map fun n => UInt8.ofNat n.toNat).toArray⟩ := by
    intro ns
    induction ns with
    | nil => intro r; simp
    | cons n ns ih => intro r; simp only [List.foldl_cons, ih, List.map_cons]; simp [ByteArray.push]
  rw [this]; simp [ByteArray.empty, ByteArray.emptyWithCapacity]; rfl

theorem elems_str {a : AV} {s : ByteArray} {esz : Nat} {k : List Tr → T} (ha : AV.val e a (.string s)) (h : sat X Q (elemsK esz H a k)) : ∃ s', a = .t (.str s') := by
  unfold elemsK at h
  split at h <;> first
    | exact ⟨_, rfl⟩
    | exact h.elim
    | (simp [AV.val, AV.leaf, Tr.rel, Tr.isAgg] at ha; done)
    | (simp only [AV.val, AV.leaf] at ha; rcases ha with ⟨_, _, _, _, _, _, _, h⟩ | ⟨_, _, _, _, _, _, _, h, _⟩ <;> simp at h)

theorem op_b2s {s d el : TypeId} {x : Opd} {x' : Operand} (hx : chkOpd X.G x x' = true) (h1 : X.P.underlying s = some (.slice el)) (h2 : X.P.underlying d = some .string) (h3 : X.P.underlying el = some (.int .u8)) : OpS0 X (.convert s d x') (.b2s x) := by
  intro o ho e H w fr a Q k hr hf hs
  have hxv := chkOpd_val hr hf hx
  simp only [opT, evK_eq] at hs
  split at hs
  · exact hs.elim
  rename_i hnostr
  have hs0 := hs
  obtain ⟨ys, news, hs, hrow, hform⟩ := elems_sound hr hxv hs
  obtain ⟨hb, hs⟩ := hs
  have hns : ∃ ns : List Int, news = ns.map (Value.int .u8) ∧ strOf ys = ⟨(ns.map fun n => UInt8.ofNat n.toNat).toArray⟩ ∧ ns.length = ys.length := by
    have : ∀ (ys : List Tr) (news : List Value), Tr.row e.ro 1 ys news → ys.all isByte = true → ∃ ns : List Int, news = ns.map (Value.int .u8) ∧ ys.map byteOfT = ns.map (fun n => UInt8.ofNat n.toNat) ∧ ns.length = ys.length := by
      intro ys
      induction ys with
      | nil => intro news h _; simp only [Tr.row] at h; exact ⟨[], by simp [h], rfl, rfl⟩
      | cons y r ih =>
        intro news h hb
        simp only [Tr.row] at h
        simp only [List.all_cons, Bool.and_eq_true] at hb
        obtain ⟨p, q, rfl, _, h5, h6⟩ := h
        obtain ⟨ns, rfl, h7, h8⟩ := ih q h6 hb.2
        unfold isByte at hb
        split at hb
        · rename_i n
          simp only [Tr.rel] at h5
          subst h5
          exact ⟨n :: ns, rfl, by simp [byteOfT, h7], by simp [h8]⟩
        · exact absurd hb.1 (by simp)
    obtain ⟨ns, h4, h5, h6⟩ := this ys news hrow hb
    exact ⟨ns, h4, by rw [strOf, h5], h6⟩
  obtain ⟨ns, rfl, hstr, hnl⟩ := hns
  rcases hform with ⟨base, cap, hc, hn⟩ | ⟨str, hc, _, _, _⟩
  · have : (execOp a.eval o).run X.P w = .ok (.value (.string (strOf ys))) w := by
      simp only [execOp, ho]
      refine run_v ?_
      rw [hc]
      have hconv : ∀ v, (convert s d v).run X.P w = (match v with | .slice _ _ _ => Conv.bytesToString v | _ => convert s d v).run X.P w := by
        intro v
        cases v <;> first | rfl | skip
        simp only [convert, Sem.run_bind, run_under h1, run_under h2, Result.andThen, run_under h3]
      rw [hconv]
      simp only
      cases base with
      | none =>
        have : ns = [] := by
          rcases hn with h | ⟨_, h, _⟩
          · simpa using h
          · cases h
        subst this
        rw [hstr]; simp [Conv.bytesToString]; rfl
      | some ad =>
        rw [run_bytesToString (P := X.P) w ad ys.length cap ns (by
          rcases hn with h | ⟨ad', h, hsp, cs, t, fz, hk, hsub⟩
          · have : ns = [] := by simpa using h
            subst this
            have : ys.length = 0 := by simpa using hnl.symm
            rw [this]; rfl
          · obtain rfl := Option.some.inj h
            have := run_loadCells_sub (P := X.P) hk hsub
            rw [List.length_map, hnl] at this
            rw [addr_eta hsp]; exact this), strOf_eq, hstr]
    rw [this]
    exact Out.same hr (mk_str _ _) hs
  · rw [hc] at hxv
    obtain ⟨s', h⟩ := elems_str hxv hs0
    exact absurd h (hnostr s')
end Stk
end

section
/- The framework, part 11: other names; the focus of a call; what is lent. -/
namespace Stk
open Go
variable {X : Cx} {Q : Ex → Fr → Hp → Prop} {e : Env} {H : Hp} {w : World}

structure Ren (R : Nat → Nat → Prop) (e e' : Env) : Prop where
  β : ∀ b b', R b b' → e.β b ≠ .no → e'.β b' = e.β b
  ro : MemLe e.ro e'.ro
def Holds (e e' : Env) : Prop := ∀ k mem, e.holds k mem → e'.holds k mem

def RenV (R : Nat → Nat → Prop) (v v' : AV) : Prop := ∀ e e', Ren R e e' → (Holds e e' ∨ v.free = true) → (∀ cs, AV.rel e v cs → AV.rel e' v' cs) ∧ (∀ c, AV.val e v c → AV.val e' v' c)
def RenVs (R : Nat → Nat → Prop) (xs ys : List AV) : Prop := ∀ e e', Ren R e e' → (Holds e e' ∨ AV.frees xs = true) → (∀ cs, AV.rels e xs cs → AV.rels e' ys cs) ∧ (∀ cs, AV.vals e xs cs → AV.vals e' ys cs)
def FnOK (X : Cx) (Q : Ex → Fr → Hp → Prop) (f : Nat → T → (Nat → T) → T) (R : Nat → Nat → Prop) : Prop :=
  ∀ b no k, sat X Q (f b no k) → sat X Q no ∨ ∃ b', R b b' ∧ sat X Q (k b')

theorem RenV.undef {R : Nat → Nat → Prop} (v : AV) (hv : v.sz = 1) (hl : ∀ e cs, AV.rel e v cs → AV.leaf e v cs) : RenV R v .undef := by
  intro e e' _ _
  refine ⟨fun cs h => ?_, fun c _ => by simp [AV.val]⟩
  obtain ⟨h1, h2⟩ := AV.leaf_length (hl e cs h)
  rw [hv] at h1
  match cs, h1 with
  | [c], _ => simp only [AV.rel, AV.leaf]; exact ⟨c, rfl, h2 c (by simp)⟩
theorem RenV.leaf {R : Nat → Nat → Prop} {v v' : AV} (hv : ∀ e cs, AV.rel e v cs = AV.leaf e v cs) (hv' : ∀ e cs, AV.rel e v' cs = AV.leaf e v' cs) (hc : ∀ e c, AV.val e v c = AV.leaf e v [c]) (hc' : ∀ e c, AV.val e v' c = AV.leaf e v' [c])
    (h : ∀ e e' cs, Ren R e e' → (Holds e e' ∨ v.free = true) → AV.leaf e v cs → AV.leaf e' v' cs) : RenV R v v' := by
  intro e e' hr hh
  exact ⟨fun cs hx => by rw [hv] at hx; rw [hv']; exact h e e' cs hr hh hx, fun c hx => by rw [hc] at hx; rw [hc']; exact h e e' [c] hr hh hx⟩

mutual
theorem renK_sound {f : Nat → T → (Nat → T) → T} {R : Nat → Nat → Prop} (hf : FnOK X Q f R) : ∀ {v : AV} {k : AV → T}, sat X Q (renK f v k) → ∃ v', RenV R v v' ∧ sat X Q (k v')
  | .t x, k, h => ⟨.t x, fun e e' hr _ => ⟨fun cs hx => by simp only [AV.rel, AV.leaf] at hx ⊢; exact Tr.rel_mono hr.ro hx, fun c hx => by
      simp only [AV.val] at hx ⊢
      cases hxa : x.isAgg with
      | true => rw [hxa] at hx; obtain ⟨cs, h1, h2⟩ := hx; exact ⟨cs, h1, Tr.rel_mono hr.ro h2⟩
      | false => rw [hxa] at hx; exact Tr.rel_mono hr.ro hx⟩, by simpa only [renK] using h⟩
  | .undef, k, h => ⟨.undef, fun e e' _ _ => ⟨fun cs hx => by simpa only [AV.rel, AV.leaf] using hx, fun c _ => by simp [AV.val]⟩, by simpa only [renK] using h⟩
  | .ptr b i o p ix, k, h => by
    simp only [renK] at h
    rcases hf _ _ _ h with h | ⟨b', hb, h⟩
    · exact ⟨_, RenV.undef _ rfl (fun e cs hx => by simpa only [AV.rel] using hx), h⟩
    · refine ⟨_, RenV.leaf (fun _ _ => by simp only [AV.rel]) (fun _ _ => by simp only [AV.rel]) (fun _ _ => by simp only [AV.val]) (fun _ _ => by simp only [AV.val]) ?_, h⟩
      rintro e e' cs hr - ⟨blk, esz, rc, n, h1, h2⟩
      exact ⟨blk, esz, rc, n, by rw [hr.β b b' hb (by simp [h1]), h1], h2⟩
  | .sl b o p off len cap, k, h => by
    simp only [renK] at h
    rcases hf _ _ _ h with h | ⟨b', hb, h⟩
    · exact ⟨_, RenV.undef _ rfl (fun e cs hx => by simpa only [AV.rel] using hx), h⟩
    · refine ⟨_, RenV.leaf (fun _ _ => by simp only [AV.rel]) (fun _ _ => by simp only [AV.rel]) (fun _ _ => by simp only [AV.val]) (fun _ _ => by simp only [AV.val]) ?_, h⟩
      intro e e' cs hr _ hx
      exact slRel_to (hr.β b b' hb) hx
  | .mp b, k, h => by
    simp only [renK] at h
    rcases hf _ _ _ h with h | ⟨b', hb, h⟩
    · exact ⟨_, RenV.undef _ rfl (fun e cs hx => by simpa only [AV.rel] using hx), h⟩
    · refine ⟨_, RenV.leaf (fun _ _ => by simp only [AV.rel]) (fun _ _ => by simp only [AV.rel]) (fun _ _ => by simp only [AV.val]) (fun _ _ => by simp only [AV.val]) ?_, h⟩
      rintro e e' cs hr - ⟨blk, esz, rc, n, h1, h2⟩
      exact ⟨blk, esz, rc, n, by rw [hr.β b b' hb (by simp [h1]), h1], h2⟩
  | .bz esz xs, k, h => ⟨.bz esz xs, RenV.leaf (fun _ _ => by simp only [AV.rel]) (fun _ _ => by simp only [AV.rel]) (fun _ _ => by simp only [AV.val]) (fun _ _ => by simp only [AV.val]) (by
      rintro e e' cs hr hh ⟨base, cap, h1, h2, h3⟩
      rcases hh with hh | hh
      · refine ⟨base, cap, h1, h2, h3.imp _root_.id ?_⟩
        rintro ⟨a, mem, mid, ha, hs, hm, hsub, hrr⟩
        exact ⟨a, mem, mid, ha, hs, hh _ _ hm, hsub, Tr.row_mono hr.ro hrr⟩
      · simp [AV.free] at hh), by simpa only [renK] using h⟩
  | .vp x, k, h => ⟨.vp x, RenV.leaf (fun _ _ => by simp only [AV.rel]) (fun _ _ => by simp only [AV.rel]) (fun _ _ => by simp only [AV.val]) (fun _ _ => by simp only [AV.val]) (by
      rintro e e' cs hr hh ⟨a, mem, mid, h1, h2, hm, hsub, hrr⟩
      rcases hh with hh | hh
      · exact ⟨a, mem, mid, h1, h2, hh _ _ hm, hsub, Tr.rel_mono hr.ro hrr⟩
      · simp [AV.free] at hh), by simpa only [renK] using h⟩
  | .agg xs, k, h => by
    simp only [renK] at h
    obtain ⟨ys, hy, h⟩ := rensK_sound hf h
    refine ⟨_, fun e e' hr hh => ?_, h⟩
    have := hy e e' hr (hh.imp _root_.id (by simp [AV.free]))
    exact ⟨fun cs hx => by simp only [AV.rel] at hx ⊢; exact this.1 _ hx, fun c hx => by simp only [AV.val] at hx ⊢; obtain ⟨cs, h1, h2⟩ := hx; exact ⟨cs, h1, this.1 _ h2⟩⟩
  | .tup xs, k, h => by
    simp only [renK] at h
    obtain ⟨ys, hy, h⟩ := rensK_sound hf h
    refine ⟨_, fun e e' hr hh => ?_, h⟩
    have := hy e e' hr (hh.imp _root_.id (by simp [AV.free]))
    exact ⟨fun cs hx => by simp [AV.rel] at hx, fun c hx => by simp only [AV.val] at hx ⊢; obtain ⟨cs, h1, h2⟩ := hx; exact ⟨cs, h1, this.2 _ h2⟩⟩
  | .fn g xs ys, k, h => by
    simp only [renK] at h
    obtain ⟨xs', hx', h⟩ := rensK_sound hf h
    obtain ⟨ys', hy', h⟩ := rensK_sound hf h
    refine ⟨_, fun e e' hr hh => ?_, h⟩
    have h1 := hx' e e' hr (hh.imp _root_.id (by simp [AV.free]; exact fun a _ => a))
    have h2 := hy' e e' hr (hh.imp _root_.id (by simp [AV.free]))
    exact ⟨fun cs hx => by simp only [AV.rel] at hx ⊢; obtain ⟨vs, ws, a, b, c⟩ := hx; exact ⟨vs, ws, a, h1.2 _ b, h2.2 _ c⟩, fun c hx => by simp only [AV.val] at hx ⊢; obtain ⟨vs, ws, a, b, c⟩ := hx; exact ⟨vs, ws, a, h1.2 _ b, h2.2 _ c⟩⟩
theorem rensK_sound {f : Nat → T → (Nat → T) → T} {R : Nat → Nat → Prop} (hf : FnOK X Q f R) : ∀ {xs : List AV} {k : List AV → T}, sat X Q (rensK f xs k) → ∃ ys, RenVs R xs ys ∧ sat X Q (k ys)
  | [], k, h => ⟨[], fun e e' _ _ => ⟨fun cs hx => hx, fun cs hx => hx⟩, by simpa only [rensK] using h⟩
  | x :: xs, k, h => by
    simp only [rensK] at h
    obtain ⟨y, hy, h⟩ := renK_sound hf h
    obtain ⟨ys, hys, h⟩ := rensK_sound hf h
    refine ⟨_, fun e e' hr hh => ?_, h⟩
    have h1 := hy e e' hr (hh.imp _root_.id (by simp [AV.frees]; exact fun a _ => a))
    have h2 := hys e e' hr (hh.imp _root_.id (by simp [AV.frees]))
    exact ⟨fun cs hx => by simp only [AV.rels] at hx ⊢; obtain ⟨a, b, p, q, r⟩ := hx; exact ⟨a, b, p, h1.1 _ q, h2.1 _ r⟩, fun cs hx => by simp only [AV.vals] at hx ⊢; obtain ⟨a, b, p, q, r⟩ := hx; exact ⟨a, b, p, h1.2 _ q, h2.2 _ r⟩⟩
end

/-! ### Objects -/
def AO.free : AO → Bool
  | .var v => v.free
  | .dr _ _ (some (_, v)) => v.free
  | _ => true
def RenO (R : Nat → Nat → Prop) (o o' : AO) : Prop :=
  match o with
  | .var v => ∃ v', o' = .var v' ∧ RenV R v v'
  | .mapI es i => o' = .map es ∨ ∃ i', o' = .mapI es i' ∧ R i i'
  | .iter m es left last => ∃ m', o' = .iter m' es left last ∧ R m m'
  | .dr esz ms (some (i, v)) => ∃ v', o' = .dr esz ms (some (i, v')) ∧ RenV R v v'
  | o => o' = o
theorem renOK_sound {f : Nat → T → (Nat → T) → T} {R : Nat → Nat → Prop} (hf : FnOK X Q f R) {o : AO} {k : AO → T} (h : sat X Q (renOK f o k)) : ∃ o', RenO R o o' ∧ sat X Q (k o') := by
  cases o with
  | var v =>
    simp only [renOK] at h
    obtain ⟨v', hv, h⟩ := renK_sound hf h
    exact ⟨_, ⟨v', rfl, hv⟩, h⟩
  | row es xs => exact ⟨_, rfl, h⟩
  | map es => exact ⟨_, rfl, h⟩
  | gone => exact ⟨_, rfl, h⟩
  | mapI es i =>
    simp only [renOK] at h
    rcases hf _ _ _ h with h | ⟨i', hi, h⟩
    · exact ⟨_, .inl rfl, h⟩
    · exact ⟨_, .inr ⟨i', rfl, hi⟩, h⟩
  | iter m es left last =>
    simp only [renOK] at h
    rcases hf _ _ _ h with h | ⟨m', hm, h⟩
    · exact h.elim
    · exact ⟨_, ⟨m', rfl, hm⟩, h⟩
  | dr esz ms h' =>
    cases h' with
    | none => exact ⟨_, rfl, h⟩
    | some p =>
      obtain ⟨i, v⟩ := p
      simp only [renOK] at h
      obtain ⟨v', hv, h⟩ := renK_sound hf h
      exact ⟨_, ⟨v', rfl, hv⟩, h⟩
theorem RenO.gone {R : Nat → Nat → Prop} {o o' : AO} (h : RenO R o o') : o' = .gone ↔ o = .gone := by
  cases o with
  | var v => obtain ⟨v', rfl, _⟩ := h; simp
  | row es xs => obtain rfl := h; simp
  | map es => obtain rfl := h; simp
  | gone => obtain rfl := h; simp
  | mapI es i => rcases h with rfl | ⟨i', rfl, _⟩ <;> simp
  | iter m es left last => obtain ⟨m', rfl, _⟩ := h; simp
  | dr esz ms h' =>
    cases h' with
    | none => obtain rfl := h; simp
    | some p => obtain ⟨v', rfl, _⟩ := h; simp
theorem RenO.row {R : Nat → Nat → Prop} {o o' : AO} (h : RenO R o o') : isRow o' = isRow o := by
  cases o with
  | var v => obtain ⟨v', rfl, _⟩ := h; rfl
  | row es xs => obtain rfl := h; rfl
  | map es => obtain rfl := h; rfl
  | gone => obtain rfl := h; rfl
  | mapI es i => rcases h with rfl | ⟨i', rfl, _⟩ <;> rfl
  | iter m es left last => obtain ⟨m', rfl, _⟩ := h; rfl
  | dr esz ms h' =>
    cases h' with
    | none => obtain rfl := h; rfl
    | some p => obtain ⟨v', rfl, _⟩ := h; rfl
theorem RenO.nil {R : Nat → Nat → Prop} {o o' : AO} (h : RenO R o o') (hn : o.nil) : o'.nil := by
  obtain ⟨esz, rfl | rfl⟩ := hn
  · obtain rfl := h; exact ⟨esz, .inl rfl⟩
  · obtain rfl := h; exact ⟨esz, .inr rfl⟩
theorem RenO.rel {R : Nat → Nat → Prop} {o o' : AO} (h : RenO R o o') {e e' : Env} (hr : Ren R e e') (hh : Holds e e' ∨ o.free = true) {esz cap : Nat} {n : Option Nat} {ob : Obj} (ho : o.rel e esz cap n ob) : o'.rel e' esz cap n ob := by
  cases o with
  | var v =>
    obtain ⟨v', rfl, hv⟩ := h
    obtain ⟨h0, h00, cs, t, fz, h1, h2, h3⟩ := ho
    exact ⟨h0, h00, cs, t, fz, h1, (hv e e' hr hh).1 _ h2, h3⟩
  | row es xs =>
    simp only [RenO] at h; subst h
    obtain ⟨h1, h0, cs, t, fz, h2, h3, h4, h5, h6, mid, post, h7, h8⟩ := ho
    exact ⟨h1, h0, cs, t, fz, h2, h3, h4, h5, h6, mid, post, h7, Tr.row_mono hr.ro h8⟩
  | map es =>
    simp only [RenO] at h; subst h
    obtain ⟨h0, ents, cl, h1, h2, h3⟩ := ho
    exact ⟨h0, ents, cl, h1, mapRel_mono hr.ro h2, h3⟩
  | gone => simp only [RenO] at h; subst h; trivial
  | mapI es i =>
    obtain ⟨h0, ents, cl, h1, h2, h3, ib, n', h4⟩ := ho
    rcases h with rfl | ⟨i', rfl, hi⟩
    · exact ⟨h0, ents, cl, h1, mapRel_mono hr.ro h2, h3⟩
    · exact ⟨h0, ents, cl, h1, mapRel_mono hr.ro h2, h3, ib, n', by rw [hr.β i i' hi (by simp [h4]), h4]⟩
  | iter m es left last =>
    obtain ⟨m', rfl, hm⟩ := h
    obtain ⟨h0, bm, s, c, n', seen, bs, h1, h2⟩ := ho
    exact ⟨h0, bm, s, c, n', seen, bs, by rw [hr.β m m' hm (by simp [h1]), h1], h2⟩
  | dr esz ms h' =>
    cases h' with
    | none => obtain rfl := h; exact ho
    | some p => obtain ⟨v', rfl, _⟩ := h; exact ho
theorem RenO.deep {R : Nat → Nat → Prop} {o o' : AO} (h : RenO R o o') {e e' : Env} (hr : Ren R e e') (hh : Holds e e' ∨ o.free = true) {B : Bind} {D : Nat → Prop} {w : World} (ho : DRel e B D o w) : DRel e' B D o' w := by
  cases o with
  | dr esz ms h' =>
    rcases ho with ⟨h1, h2, h3⟩ | ⟨blk, s, c, n, h1, h2, h3, cs, t, fz, h4, ε, h5⟩
    · cases h' with
      | none => obtain rfl := h; exact .inl ⟨h1, h2, h3⟩
      | some p => obtain ⟨v', rfl, _⟩ := h; exact .inl ⟨h1, h2, h3⟩
    · cases h' with
      | none =>
        obtain rfl := h
        exact .inr ⟨blk, s, c, n, h1, h2, h3, cs, t, fz, h4, ε, h5.map hr.ro (fun _ h => h) (fun i v' hv => by simp [outAt] at hv)⟩
      | some p =>
        obtain ⟨i, v⟩ := p
        obtain ⟨v', rfl, hv⟩ := h
        refine .inr ⟨blk, s, c, n, h1, h2, h3, cs, t, fz, h4, ε, h5.map hr.ro (fun j hj => ?_) (fun j u hu => ?_)⟩
        · simp only [outAt] at hj ⊢; split at hj <;> simp_all
        · simp only [outAt] at hu ⊢
          split at hu
          · rename_i hj
            obtain rfl := Option.some.inj hu
            exact ⟨v, by rw [if_pos hj], fun mid hm => (hv e e' hr (hh.imp id (by simp [AO.free]))).1 _ hm⟩
          · cases hu
  | var v => obtain ⟨v', rfl, _⟩ := h; exact ho
  | row es xs => obtain rfl := h; exact ho
  | map es => obtain rfl := h; exact ho
  | gone => obtain rfl := h; exact ho
  | mapI es i => rcases h with rfl | ⟨i', rfl, _⟩ <;> exact ho
  | iter m es left last => obtain ⟨m', rfl, _⟩ := h; exact ho

/-! ### What is reached -/
theorem nameIn_iff (b : Nat) : ∀ l : List Nat, nameIn b l = true ↔ b ∈ l
  | [] => by simp [nameIn]
  | c :: r => by
    simp only [nameIn, List.mem_cons]
    cases hb : Nat.beq b c with
    | true => have := beq_eq hb; simp [this]
    | false =>
      have : b ≠ c := by rintro rfl; have := Nat.beq_refl b; simp_all
      simp [this, nameIn_iff b r]

structure Good (H : Hp) (ρ : List Nat) : Prop where
  nodup : ρ.Nodup
  live : ∀ b ∈ ρ, live H b

theorem reachK_sound {k : List Nat → T} : ∀ {n : Nat} {ws acc : List Nat}, Good H acc → sat X Q (reachK H k n ws acc) → ∃ ρ, Good H ρ ∧ sat X Q (k ρ)
  | 0, ws, acc, hg, h => ⟨acc, hg, by simpa only [reachK] using h⟩
  | n + 1, [], acc, hg, h => ⟨acc, hg, by simpa only [reachK] using h⟩
  | n + 1, b :: ws, acc, hg, h => by
    simp only [reachK] at h
    split at h
    · exact reachK_sound hg h
    · rename_i hb
      obtain ⟨o, ho, h⟩ := sat_nthK h
      split at h
      · exact reachK_sound hg h
      · rename_i hne
        rw [snocK_eq] at h
        refine reachK_sound ⟨?_, ?_⟩ h
        · rw [List.nodup_append]
          refine ⟨hg.nodup, by simp, fun x hx y hy => ?_⟩
          simp only [List.mem_singleton] at hy
          subst hy
          rintro rfl
          rw [(nameIn_iff x acc).2 hx] at hb; cases hb
        · intro x hx
          rw [List.mem_append, List.mem_singleton] at hx
          rcases hx with hx | rfl
          · exact hg.live x hx
          · exact ⟨o, ho, hne⟩

theorem posK_sound {b : Nat} {no : T} {k : Nat → T} : ∀ {n : Nat} {l : List Nat}, sat X Q (posK b no k n l) → sat X Q no ∨ ∃ i, l[i]? = some b ∧ sat X Q (k (n + i))
  | n, [], h => .inl (by simpa only [posK] using h)
  | n, c :: r, h => by
    simp only [posK] at h
    split at h
    · rename_i hb
      rw [litK_eq] at h
      exact .inr ⟨0, by rw [beq_eq hb]; rfl, h⟩
    · rcases posK_sound h with h | ⟨i, hi, h⟩
      · exact .inl h
      · exact .inr ⟨i + 1, hi, by rw [show n + (i + 1) = n + 1 + i by omega]; exact h⟩
def inR (ρ : List Nat) (b i : Nat) : Prop := ρ[i]? = some b
theorem inward_ok (ρ : List Nat) : FnOK X Q (inward ρ) (inR ρ) := by
  intro b no k h
  rcases posK_sound h with h | ⟨i, hi, h⟩
  · exact .inl h
  · exact .inr ⟨i, hi, by simpa using h⟩
def outR (ρ : List Nat) (n : Nat) (j b : Nat) : Prop := ρ[j]? = some b ∨ (ρ.length ≤ j ∧ b = n + (j - ρ.length))
theorem outward_ok (ρ : List Nat) (n : Nat) : FnOK X Q (outward ρ n) (outR ρ n) := by
  intro b no k h
  refine .inr ?_
  have : ∀ (l : List Nat) (j : Nat), sat X Q (outward.go n k l j) → ∃ b', outR l n j b' ∧ sat X Q (k b') := by
    intro l
    induction l with
    | nil => intro j h; simp only [outward.go, litK_eq] at h; exact ⟨n + j, .inr ⟨by simp, by simp⟩, h⟩
    | cons c r ih =>
      intro j h
      cases j with
      | zero => simp only [outward.go] at h; exact ⟨c, .inl rfl, h⟩
      | succ j =>
        simp only [outward.go] at h
        obtain ⟨b', hb, h⟩ := ih j h
        refine ⟨b', ?_, h⟩
        rcases hb with hb | ⟨h1, h2⟩
        · exact .inl (by simpa using hb)
        · exact .inr ⟨by simp; omega, by simp; omega⟩
  exact this ρ b h

structure Foc (H : Hp) (R : Nat → Nat → Prop) (l : List Nat) (Hs : Hp) : Prop where
  len : Hs.length = l.length
  get : ∀ (i b : Nat), l[i]? = some b → ∃ o o', H[b]? = some o ∧ RenO R o o' ∧ Hs[i]? = some o'
theorem focK_sound {ρ : List Nat} : ∀ {l : List Nat} {k : Hp → T}, sat X Q (focK H ρ l k) → ∃ Hs, Foc H (inR ρ) l Hs ∧ sat X Q (k Hs)
  | [], k, h => ⟨[], ⟨rfl, fun i b h => by simp at h⟩, by simpa only [focK] using h⟩
  | b :: r, k, h => by
    simp only [focK] at h
    obtain ⟨o, ho, h⟩ := sat_nthK h
    obtain ⟨o', ho', h⟩ := renOK_sound (inward_ok ρ) h
    obtain ⟨os, hos, h⟩ := focK_sound h
    refine ⟨_, ⟨by simp [hos.len], fun i c hc => ?_⟩, h⟩
    cases i with
    | zero => simp at hc; subst hc; exact ⟨o, o', ho, ho', rfl⟩
    | succ i => simp at hc; obtain ⟨a, a', h1, h2, h3⟩ := hos.get i c hc; exact ⟨a, a', h1, h2, by simpa using h3⟩

theorem backK_sound {f : Nat → T → (Nat → T) → T} {R : Nat → Nat → Prop} {ρ : List Nat} {n : Nat} (hf : f = outward ρ n) (hR : FnOK X Q f R) : ∀ {l : List Nat} {os H : Hp} {k : Hp → T}, l.Nodup → (∀ b ∈ l, b < H.length) → l.length ≤ os.length → sat X Q (backK ρ n l os H k) →
    ∃ H', sat X Q (k H') ∧ H'.length = H.length + (os.length - l.length) ∧ (∀ (i b : Nat), l[i]? = some b → ∃ o o', os[i]? = some o ∧ RenO R o o' ∧ H'[b]? = some o') ∧
      (∀ (j : Nat) o, os[l.length + j]? = some o → ∃ o', RenO R o o' ∧ H'[H.length + j]? = some o') ∧ (∀ b, b < H.length → b ∉ l → H'[b]? = H[b]?)
  | [], [], H, k, _, _, _, h => ⟨H, by simpa only [backK] using h, by simp, by simp, by simp, fun _ _ _ => rfl⟩
  | b :: r, [], H, k, _, _, hl, h => by simp at hl
  | b :: r, o :: os, H, k, hn, hb, hl, h => by
    simp only [backK, ← hf] at h
    obtain ⟨o', ho', h⟩ := renOK_sound hR h
    obtain ⟨hlt, h⟩ := sat_setK h
    rw [List.nodup_cons] at hn
    obtain ⟨H', h, h1, h2, h3, h4⟩ := backK_sound hf hR hn.2 (fun c hc => by simpa using hb c (by simp [hc])) (by simpa using hl) h
    refine ⟨H', h, by simpa using h1, ?_, ?_, ?_⟩
    · intro i c hc
      cases i with
      | zero =>
        simp at hc; subst hc
        refine ⟨o, o', rfl, ho', ?_⟩
        rw [h4 b (by simpa using hlt) hn.1]; simp [hlt]
      | succ i => simp at hc; obtain ⟨a, a', p, q, s⟩ := h2 i c hc; exact ⟨a, a', by simpa using p, q, s⟩
    · intro j x hx
      rw [List.length_cons, show r.length + 1 + j = r.length + j + 1 by omega] at hx
      obtain ⟨x', p, q⟩ := h3 j x (by simpa using hx)
      exact ⟨x', p, by simpa using q⟩
    · intro c hc hcl
      simp only [List.mem_cons, not_or] at hcl
      rw [h4 c (by simpa using hc) hcl.2, List.getElem?_set, if_neg (fun e => hcl.1 e.symm)]
  | [], o :: os, H, k, hn, hb, hl, h => by
    simp only [backK, ← hf] at h
    obtain ⟨o', ho', h⟩ := renOK_sound hR h
    rw [snocK_eq] at h
    obtain ⟨H', h, h1, h2, h3, h4⟩ := backK_sound hf hR (l := []) (by simp) (by simp) (by simp) h
    refine ⟨H', h, by simp at h1 ⊢; omega, by simp, ?_, ?_⟩
    · intro j x hx
      cases j with
      | zero =>
        simp at hx; subst hx
        refine ⟨o', ho', ?_⟩
        rw [h4 _ (by simp) (by simp)]; simp
      | succ j =>
        obtain ⟨x', p, q⟩ := h3 j x (by simpa using hx)
        exact ⟨x', p, by rw [List.length_append, List.length_singleton] at q; rw [show H.length + (j + 1) = H.length + 1 + j by omega]; exact q⟩
    · intro b hb' _
      rw [h4 b (by simp; omega) (by simp), List.getElem?_append_left hb']
end Stk
end

section
/- The framework, part 12: a focus and the way back. -/
namespace Stk
open Go
variable {G : Gl} {e : Env} {H : Hp} {w : World}

def Env.foc (e : Env) (ρ : List Nat) (bo : Nat → Option (List Value)) : Env :=
  ⟨fun i => match ρ[i]? with
    | some b => e.β b
    | none => .no, e.ro, bo, fun i => match ρ[i]? with
    | some b => e.σ b
    | none => fun _ => False⟩
structure BoOK (e : Env) (ρ : List Nat) (w : World) (bo : Nat → Option (List Value)) : Prop where
  ext : ∀ k m, e.bo k = some m → bo k = some m
  mem : ∀ k m, bo k = some m → ∃ cs t fz, w.heap[k]? = some (.cells cs t fz) ∧ cs.toList = m
  sep : ∀ b ∈ ρ, ∀ k, Own1 e b k → bo k = none

theorem foc_β {ρ : List Nat} {bo : Nat → Option (List Value)} {i b : Nat} (h : ρ[i]? = some b) : (e.foc ρ bo).β i = e.β b := by simp [Env.foc, h]
theorem foc_σ {ρ : List Nat} {bo : Nat → Option (List Value)} {i b : Nat} (h : ρ[i]? = some b) : (e.foc ρ bo).σ i = e.σ b := by simp [Env.foc, h]
theorem foc_own1 {ρ : List Nat} {bo : Nat → Option (List Value)} {i b k : Nat} (h : ρ[i]? = some b) : Own1 (e.foc ρ bo) i k ↔ Own1 e b k := by simp only [Own1, foc_β h, foc_σ h]
theorem foc_β_inv {ρ : List Nat} {bo : Nat → Option (List Value)} {i : Nat} (h : (e.foc ρ bo).β i ≠ .no) : ∃ b, ρ[i]? = some b := by
  cases hi : ρ[i]? with
  | none => simp [Env.foc, hi] at h
  | some b => exact ⟨b, rfl⟩
theorem foc_ren (e : Env) (ρ : List Nat) (bo : Nat → Option (List Value)) : Ren (inR ρ) e (e.foc ρ bo) :=
  ⟨fun _ _ h _ => foc_β h, MemLe.refl _⟩
theorem foc_holds {ρ : List Nat} {bo : Nat → Option (List Value)} (hb : BoOK e ρ w bo) : Holds e (e.foc ρ bo) :=
  fun k m h => h.imp _root_.id (hb.ext k m)

theorem mem_of_get {α : Type} {l : List α} {i : Nat} {x : α} (h : l[i]? = some x) : x ∈ l := List.mem_of_getElem? h

theorem foc_live {ρ : List Nat} {Hs : Hp} (hg : Good H ρ) (hf : Foc H (inR ρ) ρ Hs) {i : Nat} (h : live Hs i) : ∃ b, ρ[i]? = some b ∧ live H b := by
  obtain ⟨o, ho, _⟩ := h
  have hi := lt_of_get ho
  rw [hf.len] at hi
  exact ⟨ρ[i], by simp [hi], hg.live _ (by simp)⟩
theorem foc_owns {ρ : List Nat} {bo : Nat → Option (List Value)} {Hs : Hp} (hg : Good H ρ) (hf : Foc H (inR ρ) ρ Hs) {k : Nat} (h : Owns (e.foc ρ bo) Hs k) : ∃ b, b ∈ ρ ∧ live H b ∧ Own1 e b k := by
  obtain ⟨i, hl, hβ⟩ := h
  obtain ⟨b, hb, hlb⟩ := foc_live hg hf hl
  rw [foc_own1 hb] at hβ
  exact ⟨b, mem_of_get hb, hlb, hβ⟩

theorem foc_rel (hr : Rel G e H w) {ρ : List Nat} {bo : Nat → Option (List Value)} {Hs : Hp} (hg : Good H ρ) (hf : Foc H (inR ρ) ρ Hs) (hb : BoOK e ρ w bo) : Rel G (e.foc ρ bo) Hs w := by
  have get {i : Nat} {o' : AO} (h : Hs[i]? = some o') : ∃ b o, ρ[i]? = some b ∧ H[b]? = some o ∧ RenO (inR ρ) o o' := by
    have hi := lt_of_get h
    rw [hf.len] at hi
    have hρ : ρ[i]? = some ρ[i] := by simp [hi]
    obtain ⟨o, o2, h1, h2, h3⟩ := hf.get i _ hρ
    rw [h3] at h
    obtain rfl := Option.some.inj h
    exact ⟨_, o, hρ, h1, h2⟩
  refine ⟨?_, ?_, ?_, ?_, ?_, ?_, ?_, ?_, hr.gl⟩
  · intro i o' ho' hne blk esz cap n hβ
    obtain ⟨b, o, hρ, ho, hren⟩ := get ho'
    rw [foc_β hρ] at hβ
    obtain ⟨ob, h1, h2⟩ := hr.obj b o ho (fun h => hne (hren.gone.2 h)) blk esz cap n hβ
    exact ⟨ob, h1, hren.rel (foc_ren e ρ bo) (.inl (foc_holds hb)) h2⟩
  · intro i o' ho' hne hβ
    obtain ⟨b, o, hρ, ho, hren⟩ := get ho'
    rw [foc_β hρ] at hβ
    exact hren.nil (hr.virt b o ho (fun h => hne (hren.gone.2 h)) hβ)
  · intro i o' ho' hne
    obtain ⟨b, o, hρ, ho, hren⟩ := get ho'
    rw [foc_β hρ, foc_σ hρ]
    exact hren.deep (foc_ren e ρ bo) (.inl (foc_holds hb)) (hr.deep b o ho (fun h => hne (hren.gone.2 h)))
  · intro i hi
    rw [hf.len] at hi
    have hρ : ρ[i]? = some ρ[i] := by simp [hi]
    rw [foc_β hρ]
    obtain ⟨o, h1, _⟩ := hg.live ρ[i] (by simp)
    exact hr.bound _ (lt_of_get h1)
  · intro i hi
    obtain ⟨b, hb⟩ := foc_β_inv hi
    rw [hf.len]; exact lt_of_get hb
  · intro i j hi hj k hk hk'
    obtain ⟨b, hb, hl⟩ := foc_live hg hf hi
    obtain ⟨b', hb', hl'⟩ := foc_live hg hf hj
    rw [foc_own1 hb] at hk; rw [foc_own1 hb'] at hk'
    have := hr.injO b b' hl hl' k hk hk'
    subst this
    exact (List.getElem?_inj (lt_of_get hb) hg.nodup).1 (hb.trans hb'.symm)
  · intro i hi k hk
    obtain ⟨b, h1, hl⟩ := foc_live hg hf hi
    rw [foc_own1 h1] at hk
    exact ⟨(hr.sepO b hl k hk).1, hb.sep b (mem_of_get h1) k hk⟩
  · intro k m hm
    rcases hm with hm | hm
    · exact hr.mem k m (.inl hm)
    · exact hb.mem k m hm

/-- Outside, behind what happened inside. -/
structure Merge (e : Env) (H : Hp) (ρ : List Nat) (e2 : Env) (Hs' : Hp) (R : Nat → Nat → Prop) (e3 : Env) (H' : Hp) : Prop where
  ro : e3.ro = e2.ro
  bo : e3.bo = e.bo
  old : ∀ b, b < H.length → e3.β b = e.β b
  len : H.length ≤ H'.length
  bound : ∀ b, b < H'.length → e3.β b ≠ .no
  dom : ∀ b, e3.β b ≠ .no → b < H'.length
  ren : Ren R e2 e3
  get : ∀ b o, H'[b]? = some o → o ≠ .gone → (b < H.length ∧ b ∉ ρ ∧ H[b]? = some o ∧ e3.σ b = e.σ b) ∨ ∃ (j : Nat) (o2 : AO), Hs'[j]? = some o2 ∧ RenO R o2 o ∧ (e3.β b = e2.β j ∧ e3.σ b = e2.σ j) ∧ R j b
  fn : ∀ j b b', live H' b → live H' b' → R j b → R j b' → b = b'

theorem merge_rel (hr : Rel G e H w) {ρ : List Nat} {bo : Nat → Option (List Value)} {Hs Hs' : Hp} {e2 e3 : Env} {H' : Hp} {w' : World} {R : Nat → Nat → Prop} (hg : Good H ρ) (hf : Foc H (inR ρ) ρ Hs) (hb : BoOK e ρ w bo)
    (h2 : Rel G e2 Hs' w') (hbo : e2.bo = bo) (hm : MemLe e.ro e2.ro) (hwle : WLe (fun k => ¬ Owns (e.foc ρ bo) Hs k) w w') (hown : ∀ k, Owns e2 Hs' k → k < w.heap.size → Owns (e.foc ρ bo) Hs k)
    (hfrz : ∀ k m, e2.ro k = some m → k < w.heap.size → e.ro k = some m ∨ Owns (e.foc ρ bo) Hs k)
    (hfree : bo = e.bo ∨ Hp.free Hs' = true) (hM : Merge e H ρ e2 Hs' R e3 H') : Step G e H w e3 H' w' := by
  have hold : ∀ b o, H[b]? = some o → o ≠ .gone → b ∉ ρ → ∀ k, Own1 e b k → ¬ Owns (e.foc ρ bo) Hs k := by
    intro b o ho hne hbρ k hk hown
    obtain ⟨b', hb', hl', hk'⟩ := foc_owns hg hf hown
    have := hr.injO b b' ⟨o, ho, hne⟩ hl' k hk hk'
    subst this; exact hbρ hb'
  have hlt : ∀ b o, H[b]? = some o → o ≠ .gone → ∀ k, Own1 e b k → k < w.heap.size := fun b o ho hne k hk => hr.own_lt ⟨o, ho, hne⟩ hk
  have own1o : ∀ b k, b < H.length → e3.σ b = e.σ b → (Own1 e3 b k ↔ Own1 e b k) := fun b k hb hσ => by simp only [Own1, hM.old b hb, hσ]
  have own1n : ∀ b j k, e3.β b = e2.β j ∧ e3.σ b = e2.σ j → (Own1 e3 b k ↔ Own1 e2 j k) := fun b j k h => by simp only [Own1, h.1, h.2]
  have hto : Env.To id e e3 := ⟨fun b hb => hM.old b (hr.dom b hb), by rw [hM.ro]; exact hm, fun k m h => h.imp (fun h => by rw [hM.ro]; exact hm k m h) (fun h => by rw [hM.bo]; exact h)⟩
  have hfo : ∀ (j : Nat) (o : AO), Hs'[j]? = some o → Holds e2 e3 ∨ o.free = true := by
    intro j o ho
    rcases hfree with h | h
    · left
      intro k m hk
      rcases hk with hk | hk
      · left; rw [hM.ro]; exact hk
      · right; rw [hM.bo, ← h, ← hbo]; exact hk
    · right
      have : ∀ (Hs : Hp) (j : Nat), Hp.free Hs = true → Hs[j]? = some o → o.free = true := by
        intro Hs
        induction Hs with
        | nil => intro j _ h; simp at h
        | cons x r ih =>
          intro j hf hj
          have hx : x.free = true ∧ Hp.free r = true := by
            cases x with
            | dr esz ms h' => cases h' <;> simp_all [Hp.free, AO.free]
            | _ => simp_all [Hp.free, AO.free]
          cases j with
          | zero => simp at hj; subst hj; exact hx.1
          | succ j => exact ih j hx.2 (by simpa using hj)
      exact this Hs' j h ho
  have hRo : ∀ k, ¬ Owns (e.foc ρ bo) Hs k → k < w.heap.size → e.ro k = none → e2.ro k = none := by
    intro k hk hl hn
    refine none_of fun m hm => ?_
    rcases hfrz k m hm hl with h | h
    · rw [hn] at h; cases h
    · exact hk h
  have own3 : ∀ k, Owns e3 H' k → k < w.heap.size → Owns e H k := by
    rintro k ⟨b, ⟨o, ho, hne⟩, hβ⟩ hk
    rcases hM.get b o ho hne with ⟨h1, _, h3, h4⟩ | ⟨j, o2, h3, h4, h5, _⟩
    · exact ⟨b, ⟨o, h3, hne⟩, (own1o b k h1 h4).1 hβ⟩
    · obtain ⟨b', _, hl', r⟩ := foc_owns hg hf (hown k ⟨j, ⟨o2, h3, fun h => hne (h4.gone.2 h)⟩, (own1n b j k h5).1 hβ⟩ hk)
      exact ⟨b', hl', r⟩
  refine ⟨⟨?_, ?_, ?_, hM.bound, hM.dom, ?_, ?_, ?_, ?_⟩, ⟨hM.old, by rw [hM.ro]; exact hm, hM.bo⟩, hM.len, ?_, own3, ?_⟩
  · intro b o ho hne blk s c n hβ
    rcases hM.get b o ho hne with ⟨h1, h2', h3, _⟩ | ⟨j, o2, h3, h4, h5, _⟩
    · rw [hM.old b h1] at hβ
      obtain ⟨ob, h6, h7⟩ := hr.obj b o h3 hne blk s c n hβ
      exact ⟨ob, (hwle.frame blk (lt_of_heap h6) (hold b o h3 hne h2' _ (.inl ⟨s, c, n, hβ⟩))).trans h6, AO.rel_to hto h7⟩
    · rw [h5.1] at hβ
      obtain ⟨ob, h6, h7⟩ := h2.obj j o2 h3 (fun h => hne (h4.gone.2 h)) blk s c n hβ
      exact ⟨ob, h6, h4.rel hM.ren (hfo j o2 h3) h7⟩
  · intro b o ho hne hβ
    rcases hM.get b o ho hne with ⟨h1, h2', h3, _⟩ | ⟨j, o2, h3, h4, h5, _⟩
    · rw [hM.old b h1] at hβ; exact hr.virt b o h3 hne hβ
    · rw [h5.1] at hβ
      exact h4.nil (h2.virt j o2 h3 (fun h => hne (h4.gone.2 h)) hβ)
  · intro b o ho hne
    rcases hM.get b o ho hne with ⟨h1, h2', h3, h4⟩ | ⟨j, o2, h3, h4, h5, _⟩
    · rw [hM.old b h1, h4]
      refine ((hr.deep b o h3 hne).to hto).frame hwle.size fun k ob h6 h7 => ?_
      exact (hwle.frame k (lt_of_heap h6) (hold b o h3 hne h2' k (h7.elim .inr .inl))).trans h6
    · rw [h5.1, h5.2]
      exact h4.deep hM.ren (hfo j o2 h3) (h2.deep j o2 h3 (fun h => hne (h4.gone.2 h)))
  · rintro b b' hl hl' k hk hk'
    have hl0 := hl
    have hl0' := hl'
    obtain ⟨o, ho, hne⟩ := hl
    obtain ⟨o', ho', hne'⟩ := hl'
    rcases hM.get b o ho hne with ⟨h1, h2', h3, hσ⟩ | ⟨j, o2, h3, h4, h5, h6⟩ <;> rcases hM.get b' o' ho' hne' with ⟨g1, g2', g3, hσ'⟩ | ⟨j', o2', g3, g4, g5, g6⟩
    · exact hr.injO b b' ⟨o, h3, hne⟩ ⟨o', g3, hne'⟩ k ((own1o b k h1 hσ).1 hk) ((own1o b' k g1 hσ').1 hk')
    · have hk := (own1o b k h1 hσ).1 hk
      exact absurd (hown k ⟨j', ⟨o2', g3, fun h => hne' (g4.gone.2 h)⟩, (own1n b' j' k g5).1 hk'⟩ (hlt b o h3 hne _ hk)) (hold b o h3 hne h2' _ hk)
    · have hk' := (own1o b' k g1 hσ').1 hk'
      exact absurd (hown k ⟨j, ⟨o2, h3, fun h => hne (h4.gone.2 h)⟩, (own1n b j k h5).1 hk⟩ (hlt b' o' g3 hne' _ hk')) (hold b' o' g3 hne' g2' _ hk')
    · have := h2.injO j j' ⟨o2, h3, fun h => hne (h4.gone.2 h)⟩ ⟨o2', g3, fun h => hne' (g4.gone.2 h)⟩ k ((own1n b j k h5).1 hk) ((own1n b' j' k g5).1 hk')
      subst this
      exact hM.fn j b b' hl0 hl0' h6 g6
  · rintro b ⟨o, ho, hne⟩ k hk
    rw [hM.ro, hM.bo]
    rcases hM.get b o ho hne with ⟨h1, h2', h3, hσ⟩ | ⟨j, o2, h3, h4, h5, _⟩
    · have hk := (own1o b k h1 hσ).1 hk
      have := hr.sepO b ⟨o, h3, hne⟩ k hk
      exact ⟨hRo k (hold b o h3 hne h2' _ hk) (hlt b o h3 hne _ hk) this.1, this.2⟩
    · have := h2.sepO j ⟨o2, h3, fun h => hne (h4.gone.2 h)⟩ k ((own1n b j k h5).1 hk)
      refine ⟨this.1, none_of fun m hm' => ?_⟩
      have h6 := hb.ext _ _ hm'
      rw [← hbo, this.2] at h6; cases h6
  · intro k m hk
    rcases hk with hk | hk
    · rw [hM.ro] at hk; exact h2.mem k m (.inl hk)
    · rw [hM.bo] at hk
      obtain ⟨cs, t, fz, h6, h7⟩ := hr.mem k m (.inr hk)
      refine ⟨cs, t, fz, (hwle.frame k (lt_of_heap h6) ?_).trans h6, h7⟩
      intro ho
      obtain ⟨b', _, hl', hk'⟩ := foc_owns hg hf ho
      rw [(hr.sepO b' hl' _ hk').2] at hk; cases hk
  · intro g x hx
    obtain ⟨m, h6, h7⟩ := h2.gl g x hx
    exact ⟨m, by rw [hM.ro]; exact h6, by rw [hM.ro]; exact h7⟩
  · refine hwle.mono fun k hk ho => hk ?_
    obtain ⟨b', _, hl', r⟩ := foc_owns hg hf ho
    exact ⟨b', hl', r⟩
  · intro k m hk hl
    rw [hM.ro] at hk
    rcases hfrz k m hk hl with h | h
    · exact .inl h
    · right
      obtain ⟨b', _, hl', r⟩ := foc_owns hg hf h
      exact ⟨b', hl', r⟩
end Stk
end

section
/- The framework, part 13: calls. -/
namespace Stk
open Go
variable {X : Cx} {Q : Ex → Fr → Hp → Prop} {e : Env} {H : Hp} {w : World}

/-- An environment in which what is lent can be read. -/
structure Lent (e : Env) (w : World) (bs : List Nat) (e1 : Env) : Prop where
  β : e1.β = e.β
  ro : e1.ro = e.ro
  hold : Holds e e1
  lent : ∀ b ∈ bs, ∀ blk s c n, e.β b = .at blk s c n → ∀ cs t fz, w.heap[blk]? = some (.cells cs t fz) → e1.bo blk = some cs.toList
theorem Lent.to {bs : List Nat} {e1 : Env} (h : Lent e w bs e1) : Env.To id e e1 := ⟨fun b _ => by rw [h.β]; rfl, by rw [h.ro]; exact MemLe.refl _, h.hold⟩
theorem Lent.left {as bs : List Nat} {e1 : Env} (h : Lent e w (as ++ bs) e1) : Lent e w as e1 := ⟨h.β, h.ro, h.hold, fun b hb => h.lent b (by simp [hb])⟩
theorem Lent.right {as bs : List Nat} {e1 : Env} (h : Lent e w (as ++ bs) e1) : Lent e w bs e1 := ⟨h.β, h.ro, h.hold, fun b hb => h.lent b (by simp [hb])⟩

/-- What the blocks lent are. -/
def LentOK (e : Env) (H : Hp) (w : World) (bs : List Nat) : Prop := ∀ b ∈ bs, live H b ∧ ∀ blk s c n, e.β b = .at blk s c n → ∃ cs t fz, w.heap[blk]? = some (.cells cs t fz)

theorem lend_sl (hr : Rel X.G e H w) {b o : Nat} {p : List Nat} {off len : Nat} {cap : Option Nat} {k : AV → List Nat → T} (h : sat X Q (lendK H (.sl b o p off len cap) k)) {cs : List Value} (hv : slRel e b o p off len cap cs) :
    ∃ v' bs, sat X Q (k v' bs) ∧ LentOK e H w bs ∧ ∀ e1, Lent e w bs e1 → ∃ es xs, v' = .bz es xs ∧ AV.leaf e1 (.bz es xs) cs := by
  simp only [lendK] at h
  obtain ⟨ob, hob, h⟩ := sat_nthK h
  split at h
  · rename_i es xs
    refine ⟨_, _, h, ?_, ?_⟩
    · intro b' hb
      simp only [List.mem_singleton] at hb
      subst hb
      refine ⟨⟨_, hob, by simp⟩, fun blk s c n hβ => ?_⟩
      obtain ⟨oo, hoo, hrel⟩ := hr.obj _ _ hob (by simp) _ _ _ _ hβ
      obtain ⟨_, _, cs, t, fz, rfl, _⟩ := hrel
      exact ⟨cs, t, fz, hoo⟩
    · intro e1 hl
      refine ⟨_, _, rfl, ?_⟩
      rcases hv with ⟨hβ, _, _, rfl, rfl, _, base, rfl⟩ | ⟨blk, es', rc, nn, base, cp, hβ, rfl, hle, hin, hcap, hbase⟩
      · simp only [AV.leaf]; exact ⟨base, 0, by simp, by simp, .inl (by simp)⟩
      · obtain ⟨oo, hoo, hrel⟩ := hr.obj b _ hob (by simp) _ _ _ _ hβ
        obtain ⟨rfl, hn, cc, tt, fz, rfl, hfz, hcsz, hxc, hones, mid, post, hcs, hrow⟩ := hrel
        obtain ⟨hin1, rfl, hin2⟩ := hin _ hn
        have hll : ((xs.drop off).take len).length = len := by simp; omega
        simp only [AV.leaf, hll]
        refine ⟨base, cp, rfl, hle, ?_⟩
        by_cases h0 : len = 0
        · left; subst h0; simp
        · right
          rcases hbase with hz | rfl
          · omega
          · obtain ⟨mid', hs', hr'⟩ := Tr.row_cut hrow off len
            rw [Nat.min_eq_left (by omega)] at hs'
            refine ⟨_, cc.toList, mid', rfl, rfl, .inr (hl.lent b (by simp) _ _ _ _ hβ _ _ _ hoo), ?_, by rw [hl.ro]; exact hr'⟩
            have : Sub cc.toList 0 mid := ⟨[], post, by simpa using hcs, rfl⟩
            exact this.trans hs'
  · rename_i v
    obtain ⟨y, d, hp, h⟩ := sat_getA h
    simp only [Nat.zero_add] at h
    split at h
    · rename_i m xs hod
      have hod := beq_eq hod
      subst hod
      obtain ⟨hb, h⟩ := h
      have hb := of_decide_eq_true hb
      refine ⟨_, _, h, ?_, ?_⟩
      · intro b' hb'
        simp only [List.mem_singleton] at hb'
        subst hb'
        refine ⟨⟨_, hob, by simp⟩, fun blk s c n hβ => ?_⟩
        obtain ⟨oo, hoo, hrel⟩ := hr.obj _ _ hob (by simp) _ _ _ _ hβ
        obtain ⟨_, _, cs, t, fz, rfl, _⟩ := hrel
        exact ⟨cs, t, fz, hoo⟩
      · intro e1 hl
        refine ⟨_, _, rfl, ?_⟩
        rcases hv with ⟨hβ, _⟩ | ⟨blk, es', rc, nn, base, cp, hβ, rfl, hle, hin, hcap, hbase⟩
        · obtain ⟨es', he' | he'⟩ := hr.virt b _ hob (by simp) hβ <;>
          cases he'
        · obtain ⟨oo, hoo, hrel⟩ := hr.obj b _ hob (by simp) _ _ _ _ hβ
          obtain ⟨_, rfl, cc, tt, fz, rfl, hvr, _⟩ := hrel
          obtain ⟨mid, hs, hy, _⟩ := pathA_sound (y := .undef) hp hvr
          simp only [AV.rel, AV.leaf, Tr.rel] at hy
          have hll : ((xs.drop off).take len).length = len := by simp; omega
          simp only [AV.leaf, hll]
          refine ⟨base, cp, rfl, hle, ?_⟩
          by_cases h0 : len = 0
          · left; subst h0; simp
          · right
            rcases hbase with hz | rfl
            · omega
            · obtain ⟨mid', hs', hr'⟩ := Tr.row_cut (Tr.ones_row hy.2) off len
              rw [Nat.min_eq_left (by omega)] at hs'
              exact ⟨_, cc.toList, mid', rfl, rfl, .inr (hl.lent b (by simp) _ _ _ _ hβ _ _ _ hoo), hs.trans hs', by rw [hl.ro]; exact hr'⟩
    · exact h.elim
  · exact h.elim

theorem lentOK_nil : LentOK e H w [] := fun b h => by cases h
theorem lentOK_append {as bs : List Nat} (h : LentOK e H w as) (h' : LentOK e H w bs) : LentOK e H w (as ++ bs) := fun b hb => (List.mem_append.1 hb).elim (h b) (h' b)

theorem bz_of_sl {e : Env} {full : Bool} {es : Nat} {xs : List Tr} {cs : List Value} (h : Tr.rel e.ro (.sl full es xs) cs) : AV.leaf e (.bz es xs) cs := by
  simp only [Tr.rel] at h
  obtain ⟨base, cap, rfl, _, h2, h3⟩ := h
  simp only [AV.leaf]
  refine ⟨base, cap, rfl, h2, h3.imp _root_.id ?_⟩
  rintro ⟨a, mem, mid, rfl, h4, h5, h6, h7⟩
  exact ⟨a, mem, mid, rfl, h4, .inl h5, h6, h7⟩
mutual
theorem lendT_rel {e : Env} : ∀ {x : Tr} {k : AV → T}, sat X Q (lendTK x k) → ∃ v, sat X Q (k v) ∧ v.isAgg = x.isAgg ∧ (∀ xs, v ≠ .tup xs) ∧ v ≠ .undef ∧ ∀ cs, Tr.rel e.ro x cs → AV.rel e v cs
  | .sl f es xs, k, h => ⟨.bz es xs, by simpa only [lendTK] using h, rfl, by simp, by simp, fun cs hc => by simp only [AV.rel]; exact bz_of_sl hc⟩
  | .agg xs, k, h => by
    simp only [lendTK] at h
    split at h
    · obtain ⟨ys, h1, h2⟩ := lendTs_rel h
      exact ⟨_, h1, rfl, by simp, by simp, fun cs hc => by simp only [AV.rel]; simp only [Tr.rel] at hc; exact h2 cs hc⟩
    · exact ⟨_, h, rfl, by simp, by simp, fun cs hc => by simpa only [AV.rel, AV.leaf] using hc⟩
  | .bool b, k, h => ⟨_, by simpa only [lendTK] using h, rfl, by simp, by simp, fun cs hc => by simpa only [AV.rel, AV.leaf] using hc⟩
  | .int j n, k, h => ⟨_, by simpa only [lendTK] using h, rfl, by simp, by simp, fun cs hc => by simpa only [AV.rel, AV.leaf] using hc⟩
  | .str s, k, h => ⟨_, by simpa only [lendTK] using h, rfl, by simp, by simp, fun cs hc => by simpa only [AV.rel, AV.leaf] using hc⟩
  | .nilp, k, h => ⟨_, by simpa only [lendTK] using h, rfl, by simp, by simp, fun cs hc => by simpa only [AV.rel, AV.leaf] using hc⟩
  | .nilm, k, h => ⟨_, by simpa only [lendTK] using h, rfl, by simp, by simp, fun cs hc => by simpa only [AV.rel, AV.leaf] using hc⟩
  | .nilf, k, h => ⟨_, by simpa only [lendTK] using h, rfl, by simp, by simp, fun cs hc => by simpa only [AV.rel, AV.leaf] using hc⟩
  | .nili, k, h => ⟨_, by simpa only [lendTK] using h, rfl, by simp, by simp, fun cs hc => by simpa only [AV.rel, AV.leaf] using hc⟩
  | .arr n xs, k, h => ⟨_, by simpa only [lendTK] using h, rfl, by simp, by simp, fun cs hc => by simpa only [AV.rel, AV.leaf] using hc⟩
theorem lendTs_rel {e : Env} : ∀ {xs : List Tr} {k : List AV → T}, sat X Q (lendTsK xs k) → ∃ vs, sat X Q (k vs) ∧ ∀ cs, Tr.rels e.ro xs cs → AV.rels e vs cs
  | [], k, h => ⟨[], by simpa only [lendTsK] using h, fun cs hc => by simpa only [AV.rels, Tr.rels] using hc⟩
  | x :: xs, k, h => by
    simp only [lendTsK] at h
    obtain ⟨v, h, _, _, _, h1⟩ := lendT_rel (e := e) h
    obtain ⟨vs, h, h2⟩ := lendTs_rel h
    exact ⟨_, h, fun cs hc => by
      simp only [Tr.rels] at hc
      obtain ⟨a, b, rfl, h3, h4⟩ := hc
      simp only [AV.rels]; exact ⟨a, b, rfl, h1 a h3, h2 b h4⟩⟩
end
theorem lendT_val {e : Env} {x : Tr} {k : AV → T} {c : Value} (h : sat X Q (lendTK x k)) (hv : AV.val e (.t x) c) : ∃ v, sat X Q (k v) ∧ AV.val e v c := by
  obtain ⟨v, h1, h2, h3, h4, h5⟩ := lendT_rel (e := e) h
  refine ⟨v, h1, ?_⟩
  cases hx : x.isAgg with
  | true =>
    simp only [AV.val, hx] at hv
    obtain ⟨cs, rfl, hv⟩ := hv
    rcases AV.val_of_rel (h5 _ hv) with ⟨_, h6⟩ | ⟨h6, _⟩
    · exact h6
    · rw [h2, hx] at h6; cases h6
  | false =>
    simp only [AV.val, hx] at hv
    rcases AV.val_of_rel (h5 _ hv) with ⟨h6, _⟩ | ⟨_, c', h6, h7⟩
    · rw [h2, hx] at h6; cases h6
    · simp only [List.cons.injEq, and_true] at h6; rw [h6]; exact h7
mutual
theorem lend_rel (hr : Rel X.G e H w) : ∀ {v : AV} {k : AV → List Nat → T} {cs : List Value}, sat X Q (lendK H v k) → AV.rel e v cs → ∃ v' bs, sat X Q (k v' bs) ∧ LentOK e H w bs ∧ ∀ e1, Lent e w bs e1 → AV.rel e1 v' cs
  | .sl b o p off len cap, k, cs, h, hv => by
    simp only [AV.rel, AV.leaf] at hv
    obtain ⟨v', bs, h1, h2, h3⟩ := lend_sl hr h hv
    refine ⟨v', bs, h1, h2, fun e1 hl => ?_⟩
    obtain ⟨es, xs, rfl, h4⟩ := h3 e1 hl
    simpa only [AV.rel] using h4
  | .agg xs, k, cs, h, hv => by
    simp only [lendK] at h
    simp only [AV.rel] at hv
    obtain ⟨ys, bs, h1, h2, h3⟩ := lends_rel hr h hv
    exact ⟨_, bs, h1, h2, fun e1 hl => by simp only [AV.rel]; exact h3 e1 hl⟩
  | .t x, k, cs, h, hv => by
    simp only [lendK] at h
    obtain ⟨v, h1, _, _, _, h2⟩ := lendT_rel (e := e) h
    exact ⟨v, [], h1, lentOK_nil, fun e1 hl => AV.rel_to hl.to (h2 cs (by simpa only [AV.rel, AV.leaf] using hv))⟩
  | .undef, k, cs, h, hv => ⟨.undef, [], by simpa only [lendK] using h, lentOK_nil, fun e1 hl => AV.rel_to hl.to hv⟩
  | .ptr b i o p ix, k, cs, h, hv => ⟨.ptr b i o p ix, [], by simpa only [lendK] using h, lentOK_nil, fun e1 hl => AV.rel_to hl.to hv⟩
  | .bz es xs, k, cs, h, hv => ⟨.bz es xs, [], by simpa only [lendK] using h, lentOK_nil, fun e1 hl => AV.rel_to hl.to hv⟩
  | .vp x, k, cs, h, hv => ⟨.vp x, [], by simpa only [lendK] using h, lentOK_nil, fun e1 hl => AV.rel_to hl.to hv⟩
  | .tup xs, k, cs, h, hv => ⟨.tup xs, [], by simpa only [lendK] using h, lentOK_nil, fun e1 hl => AV.rel_to hl.to hv⟩
  | .fn f xs ys, k, cs, h, hv => ⟨.fn f xs ys, [], by simpa only [lendK] using h, lentOK_nil, fun e1 hl => AV.rel_to hl.to hv⟩
  | .mp b, k, cs, h, hv => ⟨.mp b, [], by simpa only [lendK] using h, lentOK_nil, fun e1 hl => AV.rel_to hl.to hv⟩
theorem lends_rel (hr : Rel X.G e H w) : ∀ {xs : List AV} {k : List AV → List Nat → T} {cs : List Value}, sat X Q (lendsK H xs k) → AV.rels e xs cs → ∃ ys bs, sat X Q (k ys bs) ∧ LentOK e H w bs ∧ ∀ e1, Lent e w bs e1 → AV.rels e1 ys cs
  | [], k, cs, h, hv => ⟨[], [], by simpa only [lendsK] using h, lentOK_nil, fun e1 _ => hv⟩
  | x :: xs, k, cs, h, hv => by
    simp only [lendsK] at h
    simp only [AV.rels] at hv
    obtain ⟨a, b, rfl, hx, hxs⟩ := hv
    obtain ⟨y, as, h, h2, h3⟩ := lend_rel hr h hx
    obtain ⟨ys, bs, h, h4, h5⟩ := lends_rel hr h hxs
    exact ⟨_, _, h, lentOK_append h2 h4, fun e1 hl => by simp only [AV.rels]; exact ⟨a, b, rfl, h3 e1 hl.left, h5 e1 hl.right⟩⟩
end

theorem lend_val (hr : Rel X.G e H w) {v : AV} {k : AV → List Nat → T} {c : Value} (h : sat X Q (lendK H v k)) (hv : AV.val e v c) : ∃ v' bs, sat X Q (k v' bs) ∧ LentOK e H w bs ∧ ∀ e1, Lent e w bs e1 → AV.val e1 v' c := by
  cases v with
  | sl b o p off len cap =>
    simp only [AV.val, AV.leaf] at hv
    obtain ⟨v', bs, h1, h2, h3⟩ := lend_sl hr h hv
    refine ⟨v', bs, h1, h2, fun e1 hl => ?_⟩
    obtain ⟨es, xs, rfl, h4⟩ := h3 e1 hl
    simpa only [AV.val] using h4
  | agg xs =>
    simp only [lendK] at h
    simp only [AV.val] at hv
    obtain ⟨cs, rfl, hv⟩ := hv
    obtain ⟨ys, bs, h1, h2, h3⟩ := lends_rel hr h hv
    exact ⟨_, bs, h1, h2, fun e1 hl => by simp only [AV.val]; exact ⟨cs, rfl, h3 e1 hl⟩⟩
  | t x =>
    simp only [lendK] at h
    obtain ⟨v, h1, h2⟩ := lendT_val h hv
    exact ⟨v, [], h1, lentOK_nil, fun e1 hl => AV.val_to hl.to h2⟩
  | undef => exact ⟨.undef, [], h, lentOK_nil, fun e1 hl => AV.val_to hl.to hv⟩
  | ptr b i o p ix => exact ⟨.ptr b i o p ix, [], h, lentOK_nil, fun e1 hl => AV.val_to hl.to hv⟩
  | bz es xs => exact ⟨.bz es xs, [], h, lentOK_nil, fun e1 hl => AV.val_to hl.to hv⟩
  | vp x => exact ⟨.vp x, [], h, lentOK_nil, fun e1 hl => AV.val_to hl.to hv⟩
  | tup xs => exact ⟨.tup xs, [], h, lentOK_nil, fun e1 hl => AV.val_to hl.to hv⟩
  | fn f xs ys => exact ⟨.fn f xs ys, [], h, lentOK_nil, fun e1 hl => AV.val_to hl.to hv⟩
  | mp b => exact ⟨.mp b, [], h, lentOK_nil, fun e1 hl => AV.val_to hl.to hv⟩

theorem lendArgs_val (hr : Rel X.G e H w) : ∀ {bor : List Bool} {xs : List AV} {k : List AV → List Nat → T} {cs : List Value}, sat X Q (lendArgsK H bor xs k) → AV.vals e xs cs →
    ∃ ys bs, sat X Q (k ys bs) ∧ LentOK e H w bs ∧ ∀ e1, Lent e w bs e1 → AV.vals e1 ys cs
  | bor, [], k, cs, h, hv => ⟨[], [], by cases bor with
      | nil => simpa only [lendArgsK] using h
      | cons b r => cases b <;> simpa only [lendArgsK] using h, lentOK_nil, fun e1 _ => hv⟩
  | true :: r, x :: xs, k, cs, h, hv => by
    simp only [lendArgsK] at h
    simp only [AV.vals] at hv
    obtain ⟨c, b, rfl, hx, hxs⟩ := hv
    obtain ⟨y, as, h, h2, h3⟩ := lend_val hr h hx
    obtain ⟨ys, bs, h, h4, h5⟩ := lendArgs_val hr h hxs
    exact ⟨_, _, h, lentOK_append h2 h4, fun e1 hl => by simp only [AV.vals]; exact ⟨c, b, rfl, h3 e1 hl.left, h5 e1 hl.right⟩⟩
  | false :: r, x :: xs, k, cs, h, hv => by
    simp only [lendArgsK] at h
    simp only [AV.vals] at hv
    obtain ⟨c, b, rfl, hx, hxs⟩ := hv
    obtain ⟨ys, bs, h, h4, h5⟩ := lendArgs_val hr h hxs
    exact ⟨_, _, h, h4, fun e1 hl => by simp only [AV.vals]; exact ⟨c, b, rfl, AV.val_to hl.to hx, h5 e1 hl⟩⟩
  | [], x :: xs, k, cs, h, hv => by
    simp only [lendArgsK] at h
    simp only [AV.vals] at hv
    obtain ⟨c, b, rfl, hx, hxs⟩ := hv
    obtain ⟨ys, bs, h, h4, h5⟩ := lendArgs_val hr h hxs
    exact ⟨_, _, h, h4, fun e1 hl => by simp only [AV.vals]; exact ⟨c, b, rfl, AV.val_to hl.to hx, h5 e1 hl⟩⟩

theorem apartB_spec {ρ : List Nat} : ∀ {bs : List Nat}, apartB ρ bs = true → ∀ b ∈ bs, b ∉ ρ
  | [], _, b, hb => by cases hb
  | c :: r, h, b, hb => by
    simp only [apartB, Bool.and_eq_true, Bool.not_eq_true'] at h
    rcases List.mem_cons.1 hb with rfl | hb
    · intro hm; rw [(nameIn_iff _ _).2 hm] at h; cases h.1
    · exact apartB_spec h.2 b hb

open Classical in
/-- What may be read inside: what could be read, and what is lent. -/
noncomputable def lentBo (e : Env) (w : World) (bs : List Nat) : Nat → Option (List Value) := fun k =>
  match e.bo k with
  | some m => some m
  | none => if ∃ b ∈ bs, ∃ s c n, e.β b = .at k s c n then (match w.heap[k]? with
    | some (.cells cs _ _) => some cs.toList
    | _ => none) else none

theorem lentBo_lent (hr : Rel X.G e H w) {bs : List Nat} (hb : LentOK e H w bs) : Lent e w bs { e with bo := lentBo e w bs } := by
  refine ⟨rfl, rfl, fun k m h => h.imp _root_.id fun h => ?_, ?_⟩
  · show lentBo e w bs k = some m
    simp [lentBo, h]
  · intro b hbm blk s c n hβ cs t fz hk
    have := (hr.sep b (hb b hbm).1 _ _ _ _ hβ).2
    show lentBo e w bs blk = some cs.toList
    have h2 : ∃ b ∈ bs, ∃ s c n, e.β b = .at blk s c n := ⟨b, hbm, s, c, n, hβ⟩
    simp only [lentBo, this, if_pos h2, hk]
theorem lentBo_ok (hr : Rel X.G e H w) {bs ρ : List Nat} (hg : Good H ρ) (hb : LentOK e H w bs) (ha : ∀ b ∈ bs, b ∉ ρ) : BoOK e ρ w (lentBo e w bs) := by
  refine ⟨fun k m h => by simp [lentBo, h], ?_, ?_⟩
  · intro k m h
    unfold lentBo at h
    split at h
    · rename_i m' hm
      obtain rfl := Option.some.inj h
      exact hr.mem k _ (.inr hm)
    · split at h
      · split at h
        · rename_i cs t fz hk
          exact ⟨cs, t, fz, hk, by simpa using h⟩
        · cases h
      · cases h
  · intro b hbρ blk hk
    have h1 := (hr.sepO b (hg.live b hbρ) _ hk).2
    have h2 : ¬ ∃ b ∈ bs, ∃ s c n, e.β b = .at blk s c n := by
      rintro ⟨b', hb', s', c', n', hβ'⟩
      have := hr.injO b b' (hg.live b hbρ) (hb b' hb').1 _ hk (.inl ⟨s', c', n', hβ'⟩)
      subst this
      exact ha b hb' hbρ
    simp only [lentBo, h1, if_neg h2]
theorem lentBo_nil : lentBo e w [] = e.bo := by
  funext k
  unfold lentBo
  split
  · rename_i m h; exact h.symm
  · rename_i h; rw [if_neg (by rintro ⟨b, hb, _⟩; cases hb)]; exact h.symm

/-- What names around hold, behind what happened in a focus. -/
def backσ (e e2 : Env) (ρ : List Nat) (b k : Nat) : Prop := (∃ i : Nat, ρ[i]? = some b ∧ e2.σ i k) ∨ (b ∉ ρ ∧ e.σ b k)
theorem backσ_in {e e2 : Env} {ρ : List Nat} (hn : ρ.Nodup) {i b : Nat} (h : ρ[i]? = some b) : backσ e e2 ρ b = e2.σ i := by
  funext k
  refine propext ⟨?_, fun hk => .inl ⟨i, h, hk⟩⟩
  rintro (⟨j, hj, hk⟩ | ⟨h1, _⟩)
  · have : i = j := (List.getElem?_inj (lt_of_get h) hn).1 (h.trans hj.symm)
    rw [this]; exact hk
  · exact absurd (mem_of_get h) h1
theorem backσ_out {e e2 : Env} {ρ : List Nat} {b : Nat} (h : b ∉ ρ) : backσ e e2 ρ b = e.σ b := by
  funext k
  refine propext ⟨?_, fun hk => .inr ⟨h, hk⟩⟩
  rintro (⟨j, hj, hk⟩ | ⟨_, h1⟩)
  · exact absurd (mem_of_get hj) h
  · exact h1
def Env.back (e e2 : Env) (ρ : List Nat) (n m : Nat) : Env := ⟨fun b => if b < n then e.β b else e2.β (m + (b - n)), e2.ro, e.bo, fun b => if b < n then backσ e e2 ρ b else e2.σ (m + (b - n))⟩

theorem call_back {ρ : List Nat} {bo : Nat → Option (List Value)} {Hs Hs' : Hp} {e2 : Env} {H' : Hp} {w' : World} (hr : Rel X.G e H w) (hg : Good H ρ) (hf : Foc H (inR ρ) ρ Hs) (hb : BoOK e ρ w bo)
    (hs : Step X.G (e.foc ρ bo) Hs w e2 Hs' w') (hfree : bo = e.bo ∨ Hp.free Hs' = true)
    (h1 : H'.length = H.length + (Hs'.length - ρ.length)) (h2 : ∀ (i b : Nat), ρ[i]? = some b → ∃ o o', Hs'[i]? = some o ∧ RenO (outR ρ H.length) o o' ∧ H'[b]? = some o')
    (h3 : ∀ (j : Nat) o, Hs'[ρ.length + j]? = some o → ∃ o', RenO (outR ρ H.length) o o' ∧ H'[H.length + j]? = some o') (h4 : ∀ b, b < H.length → b ∉ ρ → H'[b]? = H[b]?) :
    Step X.G e H w (e.back e2 ρ H.length ρ.length) H' w' ∧ Ren (outR ρ H.length) e2 (e.back e2 ρ H.length ρ.length) ∧ (bo = e.bo → Holds e2 (e.back e2 ρ H.length ρ.length)) := by
  have hρl : ∀ i b, ρ[i]? = some b → b < H.length := fun i b h => by
    obtain ⟨o, ho, _⟩ := hg.live b (mem_of_get h); exact lt_of_get ho
  have hlen : ρ.length ≤ Hs'.length := by have := hs.len; rw [hf.len] at this; exact this
  have hold : ∀ i b, ρ[i]? = some b → e2.β i = e.β b := fun i b h => by
    rw [hs.le.β i (by rw [hf.len]; exact lt_of_get h), foc_β h]
  have hnew : ∀ b, H.length ≤ b → (e.back e2 ρ H.length ρ.length).β b = e2.β (ρ.length + (b - H.length)) := fun b h => by
    simp only [Env.back]; rw [if_neg (by omega)]
  have holdβ : ∀ b, b < H.length → (e.back e2 ρ H.length ρ.length).β b = e.β b := fun b h => by simp only [Env.back]; rw [if_pos h]
  have hnewσ : ∀ b, H.length ≤ b → (e.back e2 ρ H.length ρ.length).σ b = e2.σ (ρ.length + (b - H.length)) := fun b h => by
    simp only [Env.back]; rw [if_neg (by omega)]
  have holdσ : ∀ b, b < H.length → (e.back e2 ρ H.length ρ.length).σ b = backσ e e2 ρ b := fun b h => by simp only [Env.back]; rw [if_pos h]
  have hren : Ren (outR ρ H.length) e2 (e.back e2 ρ H.length ρ.length) := by
    refine ⟨fun j b hR _ => ?_, MemLe.refl _⟩
    rcases hR with hR | ⟨h5, rfl⟩
    · rw [holdβ b (hρl j b hR), hold j b hR]
    · rw [hnew _ (by omega)]; congr 1; omega
  refine ⟨merge_rel hr hg hf hb hs.rel hs.le.bo hs.le.ro hs.wle hs.own hs.frz hfree (R := outR ρ H.length) ⟨rfl, rfl, holdβ, by omega, ?_, ?_, hren, ?_, ?_⟩, hren, ?_⟩
  · intro b hb'
    by_cases hbl : b < H.length
    · rw [holdβ b hbl]; exact hr.bound b hbl
    · rw [hnew b (by omega)]; exact hs.rel.bound _ (by omega)
  · intro b hb'
    by_cases hbl : b < H.length
    · omega
    · rw [hnew b (by omega)] at hb'
      have := hs.rel.dom _ hb'
      omega
  · intro b o ho hne
    by_cases hbl : b < H.length
    · by_cases hbρ : b ∈ ρ
      · obtain ⟨i, hi⟩ := List.getElem?_of_mem hbρ
        obtain ⟨o2, o', g1, g2, g3⟩ := h2 i b hi
        rw [g3] at ho
        obtain rfl := Option.some.inj ho
        exact .inr ⟨i, o2, g1, g2, ⟨by rw [holdβ b hbl, hold i b hi], by rw [holdσ b hbl, backσ_in hg.nodup hi]⟩, .inl hi⟩
      · exact .inl ⟨hbl, hbρ, by rw [← h4 b hbl hbρ]; exact ho, by rw [holdσ b hbl, backσ_out hbρ]⟩
    · have hlt := lt_of_get ho
      have hj : ρ.length + (b - H.length) < Hs'.length := by omega
      obtain ⟨o', g2, g3⟩ := h3 (b - H.length) _ (List.getElem?_eq_getElem hj)
      rw [show H.length + (b - H.length) = b by omega, ho] at g3
      obtain rfl := Option.some.inj g3
      exact .inr ⟨ρ.length + (b - H.length), _, List.getElem?_eq_getElem hj, g2, ⟨hnew b (by omega), hnewσ b (by omega)⟩, .inr ⟨by omega, by omega⟩⟩
  · intro j b b' _ _ hR hR'
    rcases hR with hR | ⟨h5, rfl⟩ <;> rcases hR' with hR' | ⟨h6, rfl⟩
    · rw [hR] at hR'; exact Option.some.inj hR'
    · have := lt_of_get hR; omega
    · have := lt_of_get hR'; omega
    · rfl
  · intro hbo k m hk
    rcases hk with hk | hk
    · exact .inl hk
    · right
      show e.bo k = some m
      rw [← hbo]
      have : e2.bo = bo := hs.le.bo
      rw [← this]; exact hk

theorem callK_sound (hr : Rel X.G e H w) {f : FuncId} {bor : List Bool} {args : List AV} {cargs : Array Value} (hv : AV.vals e args cargs.toList) {k : AV → Hp → T} (h : sat X Q (callK f bor args H k)) :
    Callable X.P f ∧ Calls X.P f cargs w fun en w' => ∃ r c e' H', en = .returned c ∧ AV.val e' r c ∧ Step X.G e H w e' H' w' ∧ sat X Q (k r H') := by
  unfold callK at h
  obtain ⟨args', lent, h, hlok, hlv⟩ := lendArgs_val hr h hv
  obtain ⟨ρ, hg, h⟩ := reachK_sound (acc := []) ⟨by simp, by simp⟩ h
  split at h
  · exact h.elim
  rename_i hap
  have hap := apartB_spec hap
  obtain ⟨as, has, h⟩ := rensK_sound (inward_ok ρ) h
  obtain ⟨Hs, hf, h⟩ := focK_sound h
  rw [litK_eq] at h
  obtain ⟨Q', ⟨hca, hcalls⟩, hk⟩ := h
  have hbo := lentBo_ok hr hg hlok hap
  have hlent := lentBo_lent hr hlok
  have hra := hlv _ hlent
  have hrf := foc_rel hr hg hf hbo
  have hvi := (has { e with bo := lentBo e w lent } (e.foc ρ (lentBo e w lent)) ⟨fun _ _ hR _ => foc_β hR, MemLe.refl _⟩ (.inl fun k m hk => hk)).2 _ hra
  refine ⟨hca, Calls.mono (hcalls _ w cargs hrf hvi) ?_⟩
  rintro en w' ⟨r, c, e2, Hs', rfl, hq, hrv, hst⟩
  have hsat := hk r Hs' hq
  simp only [] at hsat
  have key (hs' : sat X Q (renK (outward ρ H.length) r fun r' => backK ρ H.length ρ Hs' H fun H' => k r' H')) (hfree : lent = [] ∨ (r.free && Hp.free Hs') = true) :
      ∃ r' c' e' H', Ending.returned c = .returned c' ∧ AV.val e' r' c' ∧ Step X.G e H w e' H' w' ∧ sat X Q (k r' H') := by
    obtain ⟨r', hr', hs'⟩ := renK_sound (outward_ok ρ H.length) hs'
    have hρl : ∀ b ∈ ρ, b < H.length := fun b hb => by obtain ⟨o, ho, _⟩ := hg.live b hb; exact lt_of_get ho
    obtain ⟨H', hs', h1, h2, h3, h4⟩ := backK_sound rfl (outward_ok ρ H.length) hg.nodup hρl (by have := hst.len; rw [hf.len] at this; exact this) hs'
    have hfr : lentBo e w lent = e.bo ∨ Hp.free Hs' = true := by
      rcases hfree with rfl | hfree
      · exact .inl lentBo_nil
      · simp only [Bool.and_eq_true] at hfree; exact .inr hfree.2
    obtain ⟨s, hren, hhold⟩ := call_back hr hg hf hbo hst hfr h1 h2 h3 h4
    refine ⟨r', c, _, H', rfl, (hr' _ _ hren ?_).2 _ hrv, s, hs'⟩
    rcases hfree with rfl | hfree
    · exact .inl (hhold lentBo_nil)
    · simp only [Bool.and_eq_true] at hfree; exact .inr hfree.1
  have hcase : lent = [] ∨ (r.free && Hp.free Hs') = true := by
    rcases Classical.em (lent = []) with hl | hl
    · exact .inl hl
    · right
      cases hfr : (r.free && Hp.free Hs') with
      | true => rfl
      | false =>
        obtain ⟨b, l, hl⟩ := List.exists_cons_of_ne_nil hl
        rw [hl, hfr] at hsat
        exact hsat.elim
  refine key ?_ hcase
  split at hsat
  · exact hsat.elim
  · exact hsat
end Stk
end
