/- The framework, part 13: calls. -/
import Derived.Test.YthkbahbbdacgeaaDoorFw12
namespace Stk
open Go
variable {X : Cx} {Q : Ex → Fr → Hp → Prop} {e : Env} {H : Hp} {w : World}

/-- An environment in which what is lent can be read. -/
structure Lent (e : Env) (w : World) (bs : List Nat) (e1 : Env) : Prop where
  β : e1.β = e.β
  ro : e1.ro = e.ro
  hold : Holds e e1
  lent : ∀ b ∈ bs, ∀ blk s c n, e.β b = .at blk s c n → ∀ cs t fz, w.heap[blk]? = some (.cells cs t fz) → e1.bo blk = some cs.toList
theorem Lent.to {bs : List Nat} {e1 : Env} (h : Lent e w bs e1) : Env.To id e e1 := ⟨fun b _ => by rw [h.β]; rfl, by rw [h.ro]; exact MemLe.refl _, h.hold⟩
theorem Lent.left {as bs : List Nat} {e1 : Env} (h : Lent e w (as ++ bs) e1) : Lent e w as e1 := ⟨h.β, h.ro, h.hold, fun b hb => h.lent b (by simp [hb])⟩
theorem Lent.right {as bs : List Nat} {e1 : Env} (h : Lent e w (as ++ bs) e1) : Lent e w bs e1 := ⟨h.β, h.ro, h.hold, fun b hb => h.lent b (by simp [hb])⟩

/-- What the blocks lent are. -/
def LentOK (e : Env) (H : Hp) (w : World) (bs : List Nat) : Prop := ∀ b ∈ bs, live H b ∧ ∀ blk s c n, e.β b = .at blk s c n → ∃ cs t fz, w.heap[blk]? = some (.cells cs t fz)

theorem lend_sl (hr : Rel X.G e H w) {b o : Nat} {p : List Nat} {off len : Nat} {cap : Option Nat} {k : AV → List Nat → T} (h : sat X Q (lendK H (.sl b o p off len cap) k)) {cs : List Value} (hv : slRel e b o p off len cap cs) :
    ∃ v' bs, sat X Q (k v' bs) ∧ LentOK e H w bs ∧ ∀ e1, Lent e w bs e1 → ∃ es xs, v' = .bz es xs ∧ AV.leaf e1 (.bz es xs) cs := by
  simp only [lendK] at h
  obtain ⟨ob, hob, h⟩ := sat_nthK h
  split at h
  · rename_i es xs
    refine ⟨_, _, h, ?_, ?_⟩
    · intro b' hb
      simp only [List.mem_singleton] at hb
      subst hb
      refine ⟨⟨_, hob, by simp⟩, fun blk s c n hβ => ?_⟩
      obtain ⟨oo, hoo, hrel⟩ := hr.obj _ _ hob (by simp) _ _ _ _ hβ
      obtain ⟨_, _, cs, t, fz, rfl, _⟩ := hrel
      exact ⟨cs, t, fz, hoo⟩
    · intro e1 hl
      refine ⟨_, _, rfl, ?_⟩
      rcases hv with ⟨hβ, _, _, rfl, rfl, _, base, rfl⟩ | ⟨blk, es', rc, nn, base, cp, hβ, rfl, hle, hin, hcap, hbase⟩
      · simp only [AV.leaf]; exact ⟨base, 0, by simp, by simp, .inl (by simp)⟩
      · obtain ⟨oo, hoo, hrel⟩ := hr.obj b _ hob (by simp) _ _ _ _ hβ
        obtain ⟨rfl, hn, cc, tt, fz, rfl, hfz, hcsz, hxc, hones, mid, post, hcs, hrow⟩ := hrel
        obtain ⟨hin1, rfl, hin2⟩ := hin _ hn
        have hll : ((xs.drop off).take len).length = len := by simp; omega
        simp only [AV.leaf, hll]
        refine ⟨base, cp, rfl, hle, ?_⟩
        by_cases h0 : len = 0
        · left; subst h0; simp
        · right
          rcases hbase with hz | rfl
          · omega
          · obtain ⟨mid', hs', hr'⟩ := Tr.row_cut hrow off len
            rw [Nat.min_eq_left (by omega)] at hs'
            refine ⟨_, cc.toList, mid', rfl, rfl, .inr (hl.lent b (by simp) _ _ _ _ hβ _ _ _ hoo), ?_, by rw [hl.ro]; exact hr'⟩
            have : Sub cc.toList 0 mid := ⟨[], post, by simpa using hcs, rfl⟩
            exact this.trans hs'
  · rename_i v
    obtain ⟨y, d, hp, h⟩ := sat_getA h
    simp only [Nat.zero_add] at h
    split at h
    · rename_i m xs hod
      have hod := beq_eq hod
      subst hod
      obtain ⟨hb, h⟩ := h
      have hb := of_decide_eq_true hb
      refine ⟨_, _, h, ?_, ?_⟩
      · intro b' hb'
        simp only [List.mem_singleton] at hb'
        subst hb'
        refine ⟨⟨_, hob, by simp⟩, fun blk s c n hβ => ?_⟩
        obtain ⟨oo, hoo, hrel⟩ := hr.obj _ _ hob (by simp) _ _ _ _ hβ
        obtain ⟨_, _, cs, t, fz, rfl, _⟩ := hrel
        exact ⟨cs, t, fz, hoo⟩
      · intro e1 hl
        refine ⟨_, _, rfl, ?_⟩
        rcases hv with ⟨hβ, _⟩ | ⟨blk, es', rc, nn, base, cp, hβ, rfl, hle, hin, hcap, hbase⟩
        · obtain ⟨es', he'⟩ := hr.virt b _ hob (by simp) hβ
          cases he'
        · obtain ⟨oo, hoo, hrel⟩ := hr.obj b _ hob (by simp) _ _ _ _ hβ
          obtain ⟨_, rfl, cc, tt, fz, rfl, hvr, _⟩ := hrel
          obtain ⟨mid, hs, hy, _⟩ := pathA_sound (y := .undef) hp hvr
          simp only [AV.rel, AV.leaf, Tr.rel] at hy
          have hll : ((xs.drop off).take len).length = len := by simp; omega
          simp only [AV.leaf, hll]
          refine ⟨base, cp, rfl, hle, ?_⟩
          by_cases h0 : len = 0
          · left; subst h0; simp
          · right
            rcases hbase with hz | rfl
            · omega
            · obtain ⟨mid', hs', hr'⟩ := Tr.row_cut (Tr.ones_row hy.2) off len
              rw [Nat.min_eq_left (by omega)] at hs'
              exact ⟨_, cc.toList, mid', rfl, rfl, .inr (hl.lent b (by simp) _ _ _ _ hβ _ _ _ hoo), hs.trans hs', by rw [hl.ro]; exact hr'⟩
    · exact h.elim
  · exact h.elim

theorem lentOK_nil : LentOK e H w [] := fun b h => by cases h
theorem lentOK_append {as bs : List Nat} (h : LentOK e H w as) (h' : LentOK e H w bs) : LentOK e H w (as ++ bs) := fun b hb => (List.mem_append.1 hb).elim (h b) (h' b)

theorem bz_of_sl {e : Env} {full : Bool} {es : Nat} {xs : List Tr} {cs : List Value} (h : Tr.rel e.ro (.sl full es xs) cs) : AV.leaf e (.bz es xs) cs := by
  simp only [Tr.rel] at h
  obtain ⟨base, cap, rfl, _, h2, h3⟩ := h
  simp only [AV.leaf]
  refine ⟨base, cap, rfl, h2, h3.imp _root_.id ?_⟩
  rintro ⟨a, mem, mid, rfl, h4, h5, h6, h7⟩
  exact ⟨a, mem, mid, rfl, h4, .inl h5, h6, h7⟩
mutual
theorem lendT_rel {e : Env} : ∀ {x : Tr} {k : AV → T}, sat X Q (lendTK x k) → ∃ v, sat X Q (k v) ∧ v.isAgg = x.isAgg ∧ (∀ xs, v ≠ .tup xs) ∧ v ≠ .undef ∧ ∀ cs, Tr.rel e.ro x cs → AV.rel e v cs
  | .sl f es xs, k, h => ⟨.bz es xs, by simpa only [lendTK] using h, rfl, by simp, by simp, fun cs hc => by simp only [AV.rel]; exact bz_of_sl hc⟩
  | .agg xs, k, h => by
    simp only [lendTK] at h
    split at h
    · obtain ⟨ys, h1, h2⟩ := lendTs_rel h
      exact ⟨_, h1, rfl, by simp, by simp, fun cs hc => by simp only [AV.rel]; simp only [Tr.rel] at hc; exact h2 cs hc⟩
    · exact ⟨_, h, rfl, by simp, by simp, fun cs hc => by simpa only [AV.rel, AV.leaf] using hc⟩
  | .bool b, k, h => ⟨_, by simpa only [lendTK] using h, rfl, by simp, by simp, fun cs hc => by simpa only [AV.rel, AV.leaf] using hc⟩
  | .int j n, k, h => ⟨_, by simpa only [lendTK] using h, rfl, by simp, by simp, fun cs hc => by simpa only [AV.rel, AV.leaf] using hc⟩
  | .str s, k, h => ⟨_, by simpa only [lendTK] using h, rfl, by simp, by simp, fun cs hc => by simpa only [AV.rel, AV.leaf] using hc⟩
  | .nilp, k, h => ⟨_, by simpa only [lendTK] using h, rfl, by simp, by simp, fun cs hc => by simpa only [AV.rel, AV.leaf] using hc⟩
  | .nilm, k, h => ⟨_, by simpa only [lendTK] using h, rfl, by simp, by simp, fun cs hc => by simpa only [AV.rel, AV.leaf] using hc⟩
  | .nilf, k, h => ⟨_, by simpa only [lendTK] using h, rfl, by simp, by simp, fun cs hc => by simpa only [AV.rel, AV.leaf] using hc⟩
  | .nili, k, h => ⟨_, by simpa only [lendTK] using h, rfl, by simp, by simp, fun cs hc => by simpa only [AV.rel, AV.leaf] using hc⟩
  | .arr n xs, k, h => ⟨_, by simpa only [lendTK] using h, rfl, by simp, by simp, fun cs hc => by simpa only [AV.rel, AV.leaf] using hc⟩
theorem lendTs_rel {e : Env} : ∀ {xs : List Tr} {k : List AV → T}, sat X Q (lendTsK xs k) → ∃ vs, sat X Q (k vs) ∧ ∀ cs, Tr.rels e.ro xs cs → AV.rels e vs cs
  | [], k, h => ⟨[], by simpa only [lendTsK] using h, fun cs hc => by simpa only [AV.rels, Tr.rels] using hc⟩
  | x :: xs, k, h => by
    simp only [lendTsK] at h
    obtain ⟨v, h, _, _, _, h1⟩ := lendT_rel (e := e) h
    obtain ⟨vs, h, h2⟩ := lendTs_rel h
    exact ⟨_, h, fun cs hc => by
      simp only [Tr.rels] at hc
      obtain ⟨a, b, rfl, h3, h4⟩ := hc
      simp only [AV.rels]; exact ⟨a, b, rfl, h1 a h3, h2 b h4⟩⟩
end
theorem lendT_val {e : Env} {x : Tr} {k : AV → T} {c : Value} (h : sat X Q (lendTK x k)) (hv : AV.val e (.t x) c) : ∃ v, sat X Q (k v) ∧ AV.val e v c := by
  obtain ⟨v, h1, h2, h3, h4, h5⟩ := lendT_rel (e := e) h
  refine ⟨v, h1, ?_⟩
  cases hx : x.isAgg with
  | true =>
    simp only [AV.val, hx] at hv
    obtain ⟨cs, rfl, hv⟩ := hv
    rcases AV.val_of_rel (h5 _ hv) with ⟨_, h6⟩ | ⟨h6, _⟩
    · exact h6
    · rw [h2, hx] at h6; cases h6
  | false =>
    simp only [AV.val, hx] at hv
    rcases AV.val_of_rel (h5 _ hv) with ⟨h6, _⟩ | ⟨_, c', h6, h7⟩
    · rw [h2, hx] at h6; cases h6
    · simp only [List.cons.injEq, and_true] at h6; rw [h6]; exact h7
mutual
theorem lend_rel (hr : Rel X.G e H w) : ∀ {v : AV} {k : AV → List Nat → T} {cs : List Value}, sat X Q (lendK H v k) → AV.rel e v cs → ∃ v' bs, sat X Q (k v' bs) ∧ LentOK e H w bs ∧ ∀ e1, Lent e w bs e1 → AV.rel e1 v' cs
  | .sl b o p off len cap, k, cs, h, hv => by
    simp only [AV.rel, AV.leaf] at hv
    obtain ⟨v', bs, h1, h2, h3⟩ := lend_sl hr h hv
    refine ⟨v', bs, h1, h2, fun e1 hl => ?_⟩
    obtain ⟨es, xs, rfl, h4⟩ := h3 e1 hl
    simpa only [AV.rel] using h4
  | .agg xs, k, cs, h, hv => by
    simp only [lendK] at h
    simp only [AV.rel] at hv
    obtain ⟨ys, bs, h1, h2, h3⟩ := lends_rel hr h hv
    exact ⟨_, bs, h1, h2, fun e1 hl => by simp only [AV.rel]; exact h3 e1 hl⟩
  | .t x, k, cs, h, hv => by
    simp only [lendK] at h
    obtain ⟨v, h1, _, _, _, h2⟩ := lendT_rel (e := e) h
    exact ⟨v, [], h1, lentOK_nil, fun e1 hl => AV.rel_to hl.to (h2 cs (by simpa only [AV.rel, AV.leaf] using hv))⟩
  | .undef, k, cs, h, hv => ⟨.undef, [], by simpa only [lendK] using h, lentOK_nil, fun e1 hl => AV.rel_to hl.to hv⟩
  | .ptr b i o p ix, k, cs, h, hv => ⟨.ptr b i o p ix, [], by simpa only [lendK] using h, lentOK_nil, fun e1 hl => AV.rel_to hl.to hv⟩
  | .bz es xs, k, cs, h, hv => ⟨.bz es xs, [], by simpa only [lendK] using h, lentOK_nil, fun e1 hl => AV.rel_to hl.to hv⟩
  | .vp x, k, cs, h, hv => ⟨.vp x, [], by simpa only [lendK] using h, lentOK_nil, fun e1 hl => AV.rel_to hl.to hv⟩
  | .tup xs, k, cs, h, hv => ⟨.tup xs, [], by simpa only [lendK] using h, lentOK_nil, fun e1 hl => AV.rel_to hl.to hv⟩
  | .fn f xs ys, k, cs, h, hv => ⟨.fn f xs ys, [], by simpa only [lendK] using h, lentOK_nil, fun e1 hl => AV.rel_to hl.to hv⟩
  | .mp b, k, cs, h, hv => ⟨.mp b, [], by simpa only [lendK] using h, lentOK_nil, fun e1 hl => AV.rel_to hl.to hv⟩
theorem lends_rel (hr : Rel X.G e H w) : ∀ {xs : List AV} {k : List AV → List Nat → T} {cs : List Value}, sat X Q (lendsK H xs k) → AV.rels e xs cs → ∃ ys bs, sat X Q (k ys bs) ∧ LentOK e H w bs ∧ ∀ e1, Lent e w bs e1 → AV.rels e1 ys cs
  | [], k, cs, h, hv => ⟨[], [], by simpa only [lendsK] using h, lentOK_nil, fun e1 _ => hv⟩
  | x :: xs, k, cs, h, hv => by
    simp only [lendsK] at h
    simp only [AV.rels] at hv
    obtain ⟨a, b, rfl, hx, hxs⟩ := hv
    obtain ⟨y, as, h, h2, h3⟩ := lend_rel hr h hx
    obtain ⟨ys, bs, h, h4, h5⟩ := lends_rel hr h hxs
    exact ⟨_, _, h, lentOK_append h2 h4, fun e1 hl => by simp only [AV.rels]; exact ⟨a, b, rfl, h3 e1 hl.left, h5 e1 hl.right⟩⟩
end

theorem lend_val (hr : Rel X.G e H w) {v : AV} {k : AV → List Nat → T} {c : Value} (h : sat X Q (lendK H v k)) (hv : AV.val e v c) : ∃ v' bs, sat X Q (k v' bs) ∧ LentOK e H w bs ∧ ∀ e1, Lent e w bs e1 → AV.val e1 v' c := by
  cases v with
  | sl b o p off len cap =>
    simp only [AV.val, AV.leaf] at hv
    obtain ⟨v', bs, h1, h2, h3⟩ := lend_sl hr h hv
    refine ⟨v', bs, h1, h2, fun e1 hl => ?_⟩
    obtain ⟨es, xs, rfl, h4⟩ := h3 e1 hl
    simpa only [AV.val] using h4
  | agg xs =>
    simp only [lendK] at h
    simp only [AV.val] at hv
    obtain ⟨cs, rfl, hv⟩ := hv
    obtain ⟨ys, bs, h1, h2, h3⟩ := lends_rel hr h hv
    exact ⟨_, bs, h1, h2, fun e1 hl => by simp only [AV.val]; exact ⟨cs, rfl, h3 e1 hl⟩⟩
  | t x =>
    simp only [lendK] at h
    obtain ⟨v, h1, h2⟩ := lendT_val h hv
    exact ⟨v, [], h1, lentOK_nil, fun e1 hl => AV.val_to hl.to h2⟩
  | undef => exact ⟨.undef, [], h, lentOK_nil, fun e1 hl => AV.val_to hl.to hv⟩
  | ptr b i o p ix => exact ⟨.ptr b i o p ix, [], h, lentOK_nil, fun e1 hl => AV.val_to hl.to hv⟩
  | bz es xs => exact ⟨.bz es xs, [], h, lentOK_nil, fun e1 hl => AV.val_to hl.to hv⟩
  | vp x => exact ⟨.vp x, [], h, lentOK_nil, fun e1 hl => AV.val_to hl.to hv⟩
  | tup xs => exact ⟨.tup xs, [], h, lentOK_nil, fun e1 hl => AV.val_to hl.to hv⟩
  | fn f xs ys => exact ⟨.fn f xs ys, [], h, lentOK_nil, fun e1 hl => AV.val_to hl.to hv⟩
  | mp b => exact ⟨.mp b, [], h, lentOK_nil, fun e1 hl => AV.val_to hl.to hv⟩

theorem lendArgs_val (hr : Rel X.G e H w) : ∀ {bor : List Bool} {xs : List AV} {k : List AV → List Nat → T} {cs : List Value}, sat X Q (lendArgsK H bor xs k) → AV.vals e xs cs →
    ∃ ys bs, sat X Q (k ys bs) ∧ LentOK e H w bs ∧ ∀ e1, Lent e w bs e1 → AV.vals e1 ys cs
  | bor, [], k, cs, h, hv => ⟨[], [], by cases bor with
      | nil => simpa only [lendArgsK] using h
      | cons b r => cases b <;> simpa only [lendArgsK] using h, lentOK_nil, fun e1 _ => hv⟩
  | true :: r, x :: xs, k, cs, h, hv => by
    simp only [lendArgsK] at h
    simp only [AV.vals] at hv
    obtain ⟨c, b, rfl, hx, hxs⟩ := hv
    obtain ⟨y, as, h, h2, h3⟩ := lend_val hr h hx
    obtain ⟨ys, bs, h, h4, h5⟩ := lendArgs_val hr h hxs
    exact ⟨_, _, h, lentOK_append h2 h4, fun e1 hl => by simp only [AV.vals]; exact ⟨c, b, rfl, h3 e1 hl.left, h5 e1 hl.right⟩⟩
  | false :: r, x :: xs, k, cs, h, hv => by
    simp only [lendArgsK] at h
    simp only [AV.vals] at hv
    obtain ⟨c, b, rfl, hx, hxs⟩ := hv
    obtain ⟨ys, bs, h, h4, h5⟩ := lendArgs_val hr h hxs
    exact ⟨_, _, h, h4, fun e1 hl => by simp only [AV.vals]; exact ⟨c, b, rfl, AV.val_to hl.to hx, h5 e1 hl⟩⟩
  | [], x :: xs, k, cs, h, hv => by
    simp only [lendArgsK] at h
    simp only [AV.vals] at hv
    obtain ⟨c, b, rfl, hx, hxs⟩ := hv
    obtain ⟨ys, bs, h, h4, h5⟩ := lendArgs_val hr h hxs
    exact ⟨_, _, h, h4, fun e1 hl => by simp only [AV.vals]; exact ⟨c, b, rfl, AV.val_to hl.to hx, h5 e1 hl⟩⟩

theorem apartB_spec {ρ : List Nat} : ∀ {bs : List Nat}, apartB ρ bs = true → ∀ b ∈ bs, b ∉ ρ
  | [], _, b, hb => by cases hb
  | c :: r, h, b, hb => by
    simp only [apartB, Bool.and_eq_true, Bool.not_eq_true'] at h
    rcases List.mem_cons.1 hb with rfl | hb
    · intro hm; rw [(nameIn_iff _ _).2 hm] at h; cases h.1
    · exact apartB_spec h.2 b hb

open Classical in
/-- What may be read inside: what could be read, and what is lent. -/
noncomputable def lentBo (e : Env) (w : World) (bs : List Nat) : Nat → Option (List Value) := fun k =>
  match e.bo k with
  | some m => some m
  | none => if ∃ b ∈ bs, ∃ s c n, e.β b = .at k s c n then (match w.heap[k]? with
    | some (.cells cs _ _) => some cs.toList
    | _ => none) else none

theorem lentBo_lent (hr : Rel X.G e H w) {bs : List Nat} (hb : LentOK e H w bs) : Lent e w bs { e with bo := lentBo e w bs } := by
  refine ⟨rfl, rfl, fun k m h => h.imp _root_.id fun h => ?_, ?_⟩
  · show lentBo e w bs k = some m
    simp [lentBo, h]
  · intro b hbm blk s c n hβ cs t fz hk
    have := (hr.sep b (hb b hbm).1 _ _ _ _ hβ).2
    show lentBo e w bs blk = some cs.toList
    have h2 : ∃ b ∈ bs, ∃ s c n, e.β b = .at blk s c n := ⟨b, hbm, s, c, n, hβ⟩
    simp only [lentBo, this, if_pos h2, hk]
theorem lentBo_ok (hr : Rel X.G e H w) {bs ρ : List Nat} (hg : Good H ρ) (hb : LentOK e H w bs) (ha : ∀ b ∈ bs, b ∉ ρ) : BoOK e ρ w (lentBo e w bs) := by
  refine ⟨fun k m h => by simp [lentBo, h], ?_, ?_⟩
  · intro k m h
    unfold lentBo at h
    split at h
    · rename_i m' hm
      obtain rfl := Option.some.inj h
      exact hr.mem k _ (.inr hm)
    · split at h
      · split at h
        · rename_i cs t fz hk
          exact ⟨cs, t, fz, hk, by simpa using h⟩
        · cases h
      · cases h
  · intro b hbρ blk s c n hβ
    have h1 := (hr.sep b (hg.live b hbρ) _ _ _ _ hβ).2
    have h2 : ¬ ∃ b ∈ bs, ∃ s c n, e.β b = .at blk s c n := by
      rintro ⟨b', hb', s', c', n', hβ'⟩
      have := hr.inj b b' (hg.live b hbρ) (hb b' hb').1 _ _ _ _ _ _ _ hβ hβ'
      subst this
      exact ha b hb' hbρ
    simp only [lentBo, h1, if_neg h2]
theorem lentBo_nil : lentBo e w [] = e.bo := by
  funext k
  unfold lentBo
  split
  · rename_i m h; exact h.symm
  · rename_i h; rw [if_neg (by rintro ⟨b, hb, _⟩; cases hb)]; exact h.symm

def Env.back (e e2 : Env) (n m : Nat) : Env := ⟨fun b => if b < n then e.β b else e2.β (m + (b - n)), e2.ro, e.bo⟩

theorem call_back {ρ : List Nat} {bo : Nat → Option (List Value)} {Hs Hs' : Hp} {e2 : Env} {H' : Hp} {w' : World} (hr : Rel X.G e H w) (hg : Good H ρ) (hf : Foc H (inR ρ) ρ Hs) (hb : BoOK e ρ w bo)
    (hs : Step X.G (e.foc ρ bo) Hs w e2 Hs' w') (hfree : bo = e.bo ∨ Hp.free Hs' = true)
    (h1 : H'.length = H.length + (Hs'.length - ρ.length)) (h2 : ∀ (i b : Nat), ρ[i]? = some b → ∃ o o', Hs'[i]? = some o ∧ RenO (outR ρ H.length) o o' ∧ H'[b]? = some o')
    (h3 : ∀ (j : Nat) o, Hs'[ρ.length + j]? = some o → ∃ o', RenO (outR ρ H.length) o o' ∧ H'[H.length + j]? = some o') (h4 : ∀ b, b < H.length → b ∉ ρ → H'[b]? = H[b]?) :
    Step X.G e H w (e.back e2 H.length ρ.length) H' w' ∧ Ren (outR ρ H.length) e2 (e.back e2 H.length ρ.length) ∧ (bo = e.bo → Holds e2 (e.back e2 H.length ρ.length)) := by
  have hρl : ∀ i b, ρ[i]? = some b → b < H.length := fun i b h => by
    obtain ⟨o, ho, _⟩ := hg.live b (mem_of_get h); exact lt_of_get ho
  have hlen : ρ.length ≤ Hs'.length := by have := hs.len; rw [hf.len] at this; exact this
  have hold : ∀ i b, ρ[i]? = some b → e2.β i = e.β b := fun i b h => by
    rw [hs.le.β i (by rw [hf.len]; exact lt_of_get h), foc_β h]
  have hnew : ∀ b, H.length ≤ b → (e.back e2 H.length ρ.length).β b = e2.β (ρ.length + (b - H.length)) := fun b h => by
    simp only [Env.back]; rw [if_neg (by omega)]
  have holdβ : ∀ b, b < H.length → (e.back e2 H.length ρ.length).β b = e.β b := fun b h => by simp only [Env.back]; rw [if_pos h]
  have hren : Ren (outR ρ H.length) e2 (e.back e2 H.length ρ.length) := by
    refine ⟨fun j b hR _ => ?_, MemLe.refl _⟩
    rcases hR with hR | ⟨h5, rfl⟩
    · rw [holdβ b (hρl j b hR), hold j b hR]
    · rw [hnew _ (by omega)]; congr 1; omega
  refine ⟨merge_rel hr hg hf hb hs.rel hs.le.bo hs.le.ro hs.wle hs.own hs.frz hfree (R := outR ρ H.length) ⟨rfl, rfl, holdβ, by omega, ?_, ?_, hren, ?_, ?_⟩, hren, ?_⟩
  · intro b hb'
    by_cases hbl : b < H.length
    · rw [holdβ b hbl]; exact hr.bound b hbl
    · rw [hnew b (by omega)]; exact hs.rel.bound _ (by omega)
  · intro b hb'
    by_cases hbl : b < H.length
    · omega
    · rw [hnew b (by omega)] at hb'
      have := hs.rel.dom _ hb'
      omega
  · intro b o ho hne
    by_cases hbl : b < H.length
    · by_cases hbρ : b ∈ ρ
      · obtain ⟨i, hi⟩ := List.getElem?_of_mem hbρ
        obtain ⟨o2, o', g1, g2, g3⟩ := h2 i b hi
        rw [g3] at ho
        obtain rfl := Option.some.inj ho
        exact .inr ⟨i, o2, g1, g2, by rw [holdβ b hbl, hold i b hi], .inl hi⟩
      · exact .inl ⟨hbl, hbρ, by rw [← h4 b hbl hbρ]; exact ho⟩
    · have hlt := lt_of_get ho
      have hj : ρ.length + (b - H.length) < Hs'.length := by omega
      obtain ⟨o', g2, g3⟩ := h3 (b - H.length) _ (List.getElem?_eq_getElem hj)
      rw [show H.length + (b - H.length) = b by omega, ho] at g3
      obtain rfl := Option.some.inj g3
      exact .inr ⟨ρ.length + (b - H.length), _, List.getElem?_eq_getElem hj, g2, hnew b (by omega), .inr ⟨by omega, by omega⟩⟩
  · intro j b b' _ _ hR hR'
    rcases hR with hR | ⟨h5, rfl⟩ <;> rcases hR' with hR' | ⟨h6, rfl⟩
    · rw [hR] at hR'; exact Option.some.inj hR'
    · have := lt_of_get hR; omega
    · have := lt_of_get hR'; omega
    · rfl
  · intro hbo k m hk
    rcases hk with hk | hk
    · exact .inl hk
    · right
      show e.bo k = some m
      rw [← hbo]
      have : e2.bo = bo := hs.le.bo
      rw [← this]; exact hk

theorem callK_sound (hr : Rel X.G e H w) {f : FuncId} {bor : List Bool} {args : List AV} {cargs : Array Value} (hv : AV.vals e args cargs.toList) {k : AV → Hp → T} (h : sat X Q (callK f bor args H k)) :
    Callable X.P f ∧ Calls X.P f cargs w fun en w' => ∃ r c e' H', en = .returned c ∧ AV.val e' r c ∧ Step X.G e H w e' H' w' ∧ sat X Q (k r H') := by
  unfold callK at h
  obtain ⟨args', lent, h, hlok, hlv⟩ := lendArgs_val hr h hv
  obtain ⟨ρ, hg, h⟩ := reachK_sound (acc := []) ⟨by simp, by simp⟩ h
  split at h
  · exact h.elim
  rename_i hap
  have hap := apartB_spec hap
  obtain ⟨as, has, h⟩ := rensK_sound (inward_ok ρ) h
  obtain ⟨Hs, hf, h⟩ := focK_sound h
  rw [litK_eq] at h
  obtain ⟨Q', ⟨hca, hcalls⟩, hk⟩ := h
  have hbo := lentBo_ok hr hg hlok hap
  have hlent := lentBo_lent hr hlok
  have hra := hlv _ hlent
  have hrf := foc_rel hr hg hf hbo
  have hvi := (has { e with bo := lentBo e w lent } (e.foc ρ (lentBo e w lent)) ⟨fun _ _ hR _ => foc_β hR, MemLe.refl _⟩ (.inl fun k m hk => hk)).2 _ hra
  refine ⟨hca, Calls.mono (hcalls _ w cargs hrf hvi) ?_⟩
  rintro en w' ⟨r, c, e2, Hs', rfl, hq, hrv, hst⟩
  have hsat := hk r Hs' hq
  simp only [] at hsat
  have key (hs' : sat X Q (renK (outward ρ H.length) r fun r' => backK ρ H.length ρ Hs' H fun H' => k r' H')) (hfree : lent = [] ∨ (r.free && Hp.free Hs') = true) :
      ∃ r' c' e' H', Ending.returned c = .returned c' ∧ AV.val e' r' c' ∧ Step X.G e H w e' H' w' ∧ sat X Q (k r' H') := by
    obtain ⟨r', hr', hs'⟩ := renK_sound (outward_ok ρ H.length) hs'
    have hρl : ∀ b ∈ ρ, b < H.length := fun b hb => by obtain ⟨o, ho, _⟩ := hg.live b hb; exact lt_of_get ho
    obtain ⟨H', hs', h1, h2, h3, h4⟩ := backK_sound rfl (outward_ok ρ H.length) hg.nodup hρl (by have := hst.len; rw [hf.len] at this; exact this) hs'
    have hfr : lentBo e w lent = e.bo ∨ Hp.free Hs' = true := by
      rcases hfree with rfl | hfree
      · exact .inl lentBo_nil
      · simp only [Bool.and_eq_true] at hfree; exact .inr hfree.2
    obtain ⟨s, hren, hhold⟩ := call_back hr hg hf hbo hst hfr h1 h2 h3 h4
    refine ⟨r', c, _, H', rfl, (hr' _ _ hren ?_).2 _ hrv, s, hs'⟩
    rcases hfree with rfl | hfree
    · exact .inl (hhold lentBo_nil)
    · simp only [Bool.and_eq_true] at hfree; exact .inr hfree.1
  have hcase : lent = [] ∨ (r.free && Hp.free Hs') = true := by
    rcases Classical.em (lent = []) with hl | hl
    · exact .inl hl
    · right
      cases hfr : (r.free && Hp.free Hs') with
      | true => rfl
      | false =>
        obtain ⟨b, l, hl⟩ := List.exists_cons_of_ne_nil hl
        rw [hl, hfr] at hsat
        exact hsat.elim
  refine key ?_ hcase
  split at hsat
  · exact hsat.elim
  · exact hsat
end Stk
