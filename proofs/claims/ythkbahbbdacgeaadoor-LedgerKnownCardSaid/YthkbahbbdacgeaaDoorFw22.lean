/- The framework, part 22: what is read of an argument is data. -/
import Derived.Test.YthkbahbbdacgeaaDoorFw21
import Derived.DataReads
namespace Stk
open Go

def roW (W : World) : Nat → Option (List Value) := fun k =>
  match W.heap[k]? with
  | some (.cells cs _ _) => some cs.toList
  | _ => none

theorem mapM_get {α β : Type} {f : α → Option β} : ∀ {l : List α} {ys : List β}, l.mapM f = some ys → ys.length = l.length ∧ ∀ (i : Nat) x, l[i]? = some x → ∃ y, f x = some y ∧ ys[i]? = some y
  | [], ys, h => by
    simp at h; subst h; exact ⟨rfl, fun i x hx => by simp at hx⟩
  | a :: l, ys, h => by
    rw [List.mapM_cons] at h
    cases ha : f a with
    | none => simp [ha] at h
    | some y =>
      cases hl : l.mapM f with
      | none => simp [ha, hl] at h
      | some zs =>
        simp [ha, hl] at h
        subst h
        obtain ⟨h1, h2⟩ := mapM_get hl
        refine ⟨by simp [h1], fun i x hx => ?_⟩
        cases i with
        | zero => simp at hx; subst hx; exact ⟨y, ha, rfl⟩
        | succ i => simpa using h2 i x (by simpa using hx)

theorem sub_of_get {cs l : List Value} {o : Nat} (hn : 0 < l.length) (h : ∀ i, i < l.length → cs[o + i]? = l[i]?) : Sub cs o l := by
  have hlen : o + l.length ≤ cs.length := by
    have := h (l.length - 1) (by omega)
    have hl : l[l.length - 1]? = some l[l.length - 1] := by simp
    rw [hl] at this
    have := lt_of_get this
    omega
  refine ⟨cs.take o, cs.drop (o + l.length), ?_, by rw [List.length_take]; omega⟩
  have hm : (cs.drop o).take l.length = l := by
    apply List.ext_getElem?
    intro i
    rw [List.getElem?_take]
    split
    · rename_i hi; rw [List.getElem?_drop]; exact h i hi
    · rename_i hi; rw [List.getElem?_eq_none (by omega)]
  have h1 : cs = cs.take o ++ cs.drop o := (List.take_append_drop o cs).symm
  have h2 : cs.drop o = l ++ cs.drop (o + l.length) := by
    have := (List.take_append_drop l.length (cs.drop o)).symm
    rw [hm, List.drop_drop] at this
    exact this
  rw [← h2]; exact h1

theorem cells_sub {W : World} {base : Nat} {a : Addr} {n : Nat} {l : List Value} (h : W.cells? base a n = some l) (hn : 0 < n) : l.length = n ∧ a.spot = none ∧ ∃ mem, roW W a.block = some mem ∧ Sub mem a.off l := by
  unfold World.cells? at h
  split at h
  · obtain ⟨h1, h2⟩ := mapM_get h
    rw [List.length_range] at h1
    have hc : ∀ i, i < n → ∃ y, W.cell? (a.add i) = some y ∧ l[i]? = some y := fun i hi => h2 i i (by simp [hi])
    obtain ⟨y0, hy0, _⟩ := hc 0 hn
    have hsp : a.spot = none := by
      have := World.cell?_spot hy0
      simpa [Addr.add] using this
    have hadd : ∀ i, a.add i = ⟨a.block, a.off + i, none⟩ := fun i => by
      unfold Addr.add
      split
      · rename_i hi; subst hi; cases a; simp_all
      · rfl
    refine ⟨h1, hsp, ?_⟩
    have : ∃ cs t fz, W.heap[a.block]? = some (.cells cs t fz) := by
      rw [hadd] at hy0
      unfold World.cell? at hy0
      cases hb : W.heap[a.block]? with
      | none => simp [hb] at hy0
      | some ob =>
        cases ob with
        | cells cs t fz => exact ⟨cs, t, fz, rfl⟩
        | _ => simp [hb] at hy0
    obtain ⟨cs, t, fz, hb⟩ := this
    refine ⟨cs.toList, by simp [roW, hb], sub_of_get (by omega) fun i hi => ?_⟩
    obtain ⟨y, hy, hl⟩ := hc i (by omega)
    rw [hadd, cell_of hb] at hy
    rw [hl]; simpa using hy
  · cases h

def flatT (P : Program) (t : TypeId) : Bool :=
  match P.underlying t with
  | some .bool | some (.int _) | some .string | some (.slice _) => true
  | _ => false
def offsOK (P : Program) : Nat → List Field → Nat → Bool
  | o, [], n => Nat.beq o n
  | o, f :: fs, n => Nat.beq f.offset o && offsOK P (o + P.cellsOf f.type) fs n
/-- Types of data without pointers. -/
def tyT (P : Program) : Nat → TypeId → Bool
  | 0, _ => false
  | n + 1, t => match P.underlying t with
    | some .bool | some (.int _) | some .string => true
    | some (.slice e) => Nat.ble 1 (P.cellsOf e) && tyT P n e
    | some (.struct fs) => offsOK P 0 fs.toList (P.cellsOf t) && fs.toList.all fun f => tyT P n f.type
    | some (.array m e) => Nat.beq (P.cellsOf e) 1 && flatT P e && Nat.beq (P.cellsOf t) m && tyT P n e
    | _ => false
structure Lim {K : Type} (P : Program) (lim : Nat → Nat → Prop) (G : TypeId → DataW K → Prop) : Prop where
  str : ∀ t bs, G t (.lit (.string bs)) → lim bs.length 1
  nil : ∀ b, lim 0 b
  sl : ∀ t e es sp, P.underlying t = some (.slice e) → G t (.slice es sp) → lim es.length (P.bytesOf e) ∧ ∀ d ∈ es, G e d
  st : ∀ t fs ps, P.underlying t = some (.struct fs) → G t (.agg ps) → ∀ (i : Nat) f d, fs.toList[i]? = some f → ps[i]? = some d → G f.type d
  arr : ∀ t m e ps, P.underlying t = some (.array m e) → G t (.agg ps) → ∀ d ∈ ps, G e d
def TrTy (P : Program) (lim : Nat → Nat → Prop) : Nat → TypeId → Tr → Prop
  | 0, _, _ => False
  | n + 1, t, x => match P.underlying t with
    | some .bool => ∃ b, x = .bool b
    | some (.int k) => ∃ i, x = .int k i ∧ (Lit.int k i).wf = true
    | some .string => ∃ s, x = .str s ∧ lim s.size 1
    | some (.slice e) => ∃ full xs, x = .sl full (P.cellsOf e) xs ∧ (full = true → xs = []) ∧ lim xs.length (P.bytesOf e) ∧ ∀ y ∈ xs, TrTy P lim n e y
    | some (.struct fs) => ∃ xs, x = .agg xs ∧ xs.length = fs.toList.length ∧ ∀ (i : Nat) f y, fs.toList[i]? = some f → xs[i]? = some y → TrTy P lim n f.type y
    | some (.array m e) => ∃ xs, x = .arr m xs ∧ xs.length = m ∧ ∀ y ∈ xs, TrTy P lim n e y
    | _ => False

theorem TrTy.flat {P : Program} {lim : Nat → Nat → Prop} {n : Nat} {t : TypeId} {x : Tr} (h : TrTy P lim n t x) (hf : flatT P t = true) : x.isAgg = false := by
  cases n with
  | zero => exact h.elim
  | succ n =>
    unfold TrTy at h
    unfold flatT at hf
    split at hf
    · rename_i hu; simp only [hu] at h; obtain ⟨_, rfl⟩ := h; rfl
    · rename_i hu; simp only [hu] at h; obtain ⟨_, rfl, _⟩ := h; rfl
    · rename_i hu; simp only [hu] at h; obtain ⟨_, rfl, _⟩ := h; rfl
    · rename_i hu; simp only [hu] at h; obtain ⟨_, _, rfl, _⟩ := h; rfl
    · cases hf

/-- Elements that lie side by side. -/
theorem row_of {P : Program} {lim : Nat → Nat → Prop} {W : World} {n e : Nat} {mem : List Value} : ∀ {k o : Nat} {segs : List (List Value)}, segs.length = k → (∀ (i : Nat) l, segs[i]? = some l → Sub mem (o + i * P.cellsOf e) l ∧ l.length = P.cellsOf e ∧ ∃ x, Tr.rel (roW W) x l ∧ TrTy P lim n e x) → o ≤ mem.length →
    ∃ xs mid, xs.length = k ∧ Sub mem o mid ∧ Tr.row (roW W) (P.cellsOf e) xs mid ∧ ∀ y ∈ xs, TrTy P lim n e y
  | k, o, [], hk, _, ho => ⟨[], [], hk, ⟨mem.take o, mem.drop o, by simp, by rw [List.length_take]; omega⟩, by simp [Tr.row], by simp⟩
  | k, o, l :: segs, hk, h, ho => by
    obtain ⟨⟨p, q, hm, hp⟩, h2, x, h3, h4⟩ := h 0 l rfl
    rw [Nat.zero_mul, Nat.add_zero] at hp
    have hlen : o + P.cellsOf e ≤ mem.length := by rw [hm]; simp [hp, h2]
    obtain ⟨xs, mid, g1, ⟨p2, q2, g2, g2'⟩, g3, g4⟩ := row_of (k := segs.length) (o := o + P.cellsOf e) (segs := segs) rfl (fun i l' hl' => by
      have := h (i + 1) l' (by simpa using hl')
      rw [Nat.succ_mul] at this
      rw [show o + P.cellsOf e + i * P.cellsOf e = o + (i * P.cellsOf e + P.cellsOf e) by omega]; exact this) hlen
    refine ⟨x :: xs, l ++ mid, by simp at hk; simp [g1, hk], ⟨p, q2, ?_, hp⟩, by simp only [Tr.row]; exact ⟨l, mid, rfl, h2, h3, g3⟩, fun y hy => ?_⟩
    · have h5 : mem.take (o + P.cellsOf e) = p ++ l := by rw [hm, ← List.append_assoc, List.take_append_of_le_length (by simp [hp, h2]), List.take_of_length_le (by simp [hp, h2])]
      have h6 : mem.take (o + P.cellsOf e) = p2 := by rw [g2, List.take_append_of_le_length (by omega), List.take_of_length_le (by omega)]
      rw [g2, ← h6, h5]; simp
    · rcases List.mem_cons.1 hy with rfl | hy
      · exact h4
      · exact g4 y hy

/-- Fields that lie side by side. -/
theorem fields_of {P : Program} {lim : Nat → Nat → Prop} {W : World} {n : Nat} {cs : List Value} {tot : Nat} (hcs : cs.length = tot) : ∀ {fs : List Field} {o : Nat}, offsOK P o fs tot = true → o ≤ tot →
    (∀ f ∈ fs, ((cs.drop f.offset).take (P.cellsOf f.type)).length = P.cellsOf f.type → ∃ x, Tr.rel (roW W) x ((cs.drop f.offset).take (P.cellsOf f.type)) ∧ TrTy P lim n f.type x) →
    ∃ xs, Tr.rels (roW W) xs (cs.drop o) ∧ xs.length = fs.length ∧ ∀ (i : Nat) f y, fs[i]? = some f → xs[i]? = some y → TrTy P lim n f.type y
  | [], o, h, ho, _ => by
    simp only [offsOK] at h
    have := beq_eq h
    refine ⟨[], ?_, rfl, fun i f y hf => by simp at hf⟩
    simp only [Tr.rels]
    rw [List.drop_eq_nil_of_le (by omega)]
  | f :: fs, o, h, ho, hx => by
    simp only [offsOK, Bool.and_eq_true] at h
    obtain ⟨h1, h2⟩ := h
    have h1 := beq_eq h1
    have hmono : ∀ (fs : List Field) (o : Nat), offsOK P o fs tot = true → o ≤ tot := by
      intro fs
      induction fs with
      | nil => intro o h; simp only [offsOK] at h; have := beq_eq h; omega
      | cons f fs ih => intro o h; simp only [offsOK, Bool.and_eq_true] at h; have := ih _ h.2; omega
    have hle := hmono fs _ h2
    obtain ⟨x, hr, ht⟩ := hx f (by simp) (by rw [List.length_take, List.length_drop, h1]; omega)
    obtain ⟨xs, g1, g2, g3⟩ := fields_of hcs h2 hle (fun f' hf' => hx f' (by simp [hf']))
    refine ⟨x :: xs, ?_, by simp [g2], fun i f' y hf hy => ?_⟩
    · simp only [Tr.rels]
      refine ⟨_, _, ?_, hr, g1⟩
      rw [h1, ← List.drop_drop, List.take_append_drop]
    · cases i with
      | zero => simp at hf hy; subst hf hy; exact ht
      | succ i => exact g3 i f' y (by simpa using hf) (by simpa using hy)

theorem trod_tr {K : Type} {enc : TypeId × Value → K} {P : Program} {lim : Nat → Nat → Prop} {G : TypeId → DataW K → Prop} (HG : Lim P lim G) {W : World} {base : Nat} {sp : Nat → Bool} {held : Bool} : ∀ (fuel : Nat) {n : Nat} {t : TypeId} {cs : List Value} {dp : DataW K × List MemPlace}, tyT P n t = true →
    DataW.trod enc P W base sp held fuel t cs = some dp → cs.length = P.cellsOf t → G t dp.1 → ∃ x, Tr.rel (roW W) x cs ∧ TrTy P lim n t x
  | 0, n, t, cs, dp, _, h, _, _ => by simp [DataW.trod] at h
  | fuel + 1, 0, t, cs, dp, ht, h, _, _ => by simp [tyT] at ht
  | fuel + 1, n + 1, t, cs, dp, ht, h, hl, hg => by
    unfold tyT at ht
    unfold DataW.trod at h
    unfold TrTy
    have out {α : Type} {a b : TypeDesc} (h : some a = some b) (hne : a ≠ b) : α := absurd (Option.some.inj h) hne
    split at ht
    · rename_i hu
      rw [hu] at h; (try simp only [hu])
      split at h <;> first | (rename_i heq; cases heq; done) | (rename_i heq _; cases heq; done) | (rename_i heq _ _; cases heq; done) | skip
      · rename_i b _; exact ⟨.bool b, by simp [Tr.rel], b, rfl⟩
      all_goals cases h
    · rename_i k hu
      rw [hu] at h; (try simp only [hu])
      split at h <;> first | (rename_i heq; cases heq; done) | (rename_i heq _; cases heq; done) | (rename_i heq _ _; cases heq; done) | skip
      · rename_i k1 k' i heq
        obtain rfl := TypeDesc.int.inj (Option.some.inj heq)
        split at h
        · rename_i hk
          obtain ⟨rfl, hw⟩ := hk
          exact ⟨.int k' i, by simp [Tr.rel], i, rfl, hw⟩
        · cases h
      all_goals cases h
    · rename_i hu
      rw [hu] at h; (try simp only [hu])
      split at h <;> first | (rename_i heq; cases heq; done) | (rename_i heq _; cases heq; done) | (rename_i heq _ _; cases heq; done) | skip
      · rename_i s heq
        split at h
        · rename_i hs
          cases h
          exact ⟨.str s, by simp [Tr.rel], s, rfl, by have := HG.str _ _ hg; rwa [Array.length_toList] at this⟩
        · cases h
      all_goals cases h
    · rename_i e hu
      simp only [Bool.and_eq_true] at ht
      have hpos := Nat.le_of_ble_eq_true ht.1
      rw [hu] at h; (try simp only [hu])
      split at h <;> first | (rename_i heq; cases heq; done) | (rename_i heq _; cases heq; done) | (rename_i heq _ _; cases heq; done) | skip
      · exact ⟨.sl true (P.cellsOf e) [], by simp [Tr.rel], true, [], rfl, fun _ => rfl, HG.nil _, by simp⟩
      · rename_i e' a len cap heq
        obtain rfl := TypeDesc.slice.inj (Option.some.inj heq)
        split at h
        · rename_i hb
          cases hm : (List.range len).mapM fun i => (W.cells? base (a.add (i * P.cellsOf e)) (P.cellsOf e)).bind (DataW.trod enc P W base sp held fuel e) with
          | none => simp [hm] at h
          | some elems =>
            obtain ⟨h1, h2⟩ := mapM_get hm
            rw [List.length_range] at h1
            have hG : lim len (P.bytesOf e) ∧ ∀ (i : Nat) y, elems[i]? = some y → G e y.1 := by
              simp only [hm, Option.bind_some, Option.map_eq_some_iff] at h
              obtain ⟨rest, _, rfl⟩ := h
              obtain ⟨g1, g2⟩ := HG.sl _ _ _ _ hu hg
              rw [List.length_map, h1] at g1
              exact ⟨g1, fun i y hy => g2 _ (List.mem_map_of_mem (List.mem_of_getElem? hy))⟩
            have hseg : ∀ i, i < len → ∃ l, W.cells? base (a.add (i * P.cellsOf e)) (P.cellsOf e) = some l ∧ ∃ x, Tr.rel (roW W) x l ∧ TrTy P lim n e x := by
              intro i hi
              obtain ⟨y, hy, hy'⟩ := h2 i i (by simp [hi])
              have hgy := hG.2 i y hy'
              cases hc : W.cells? base (a.add (i * P.cellsOf e)) (P.cellsOf e) with
              | none => simp [hc] at hy
              | some l =>
                simp only [hc, Option.bind_some] at hy
                exact ⟨l, rfl, trod_tr HG fuel ht.2 hy (cells_sub hc hpos).1 hgy⟩
            by_cases h0 : len = 0
            · subst h0
              exact ⟨.sl false (P.cellsOf e) [], by simp [Tr.rel], false, [], rfl, by simp, HG.nil _, by simp⟩
            · obtain ⟨l0, hl0, _⟩ := hseg 0 (by omega)
              rw [Nat.zero_mul] at hl0
              have ha0 : a.add 0 = a := by simp [Addr.add]
              rw [ha0] at hl0
              obtain ⟨_, hsp, mem, hmem, ⟨p0, q0, hm0, hp0⟩⟩ := cells_sub hl0 hpos
              have hadd : ∀ j, a.add j = ⟨a.block, a.off + j, none⟩ := fun j => by
                unfold Addr.add
                split
                · rename_i hi; subst hi; cases a; simp_all
                · rfl
              have hsegs : ∃ segs : List (List Value), segs.length = len ∧ ∀ (i : Nat) l, segs[i]? = some l → Sub mem (a.off + i * P.cellsOf e) l ∧ l.length = P.cellsOf e ∧ ∃ x, Tr.rel (roW W) x l ∧ TrTy P lim n e x := by
                refine ⟨(List.range len).map fun i => ((W.cells? base (a.add (i * P.cellsOf e)) (P.cellsOf e)).getD []), by simp, fun i l hl => ?_⟩
                have hi : i < len := by have := lt_of_get hl; simpa using this
                obtain ⟨l', hc, hx⟩ := hseg i hi
                simp [hi, hc] at hl
                subst hl
                obtain ⟨g1, _, mem', g3, g4⟩ := cells_sub hc hpos
                rw [hadd] at g3 g4
                have : mem' = mem := by
                  have g3 : roW W a.block = some mem' := g3
                  rw [hmem] at g3; exact (Option.some.inj g3).symm
                subst this
                exact ⟨g4, g1, hx⟩
              obtain ⟨segs, g1, g2⟩ := hsegs
              obtain ⟨xs, mid, k1, k2, k3, k4⟩ := row_of g1 g2 (by rw [hm0]; simp [hp0])
              refine ⟨.sl false (P.cellsOf e) xs, ?_, false, xs, rfl, by simp, by rw [k1]; exact hG.1, k4⟩
              simp only [Tr.rel]
              exact ⟨some a, cap, by rw [k1], by simp, by omega, .inr ⟨a, mem, mid, rfl, hsp, hmem, k2, k3⟩⟩
        · cases h
      all_goals cases h
    · rename_i fs hu
      simp only [Bool.and_eq_true, List.all_eq_true] at ht
      rw [hu] at h; (try simp only [hu])
      split at h <;> first | (rename_i heq; cases heq; done) | (rename_i heq _; cases heq; done) | (rename_i heq _ _; cases heq; done) | skip
      · rename_i cs _ _ fs' heq
        obtain rfl := TypeDesc.struct.inj (Option.some.inj heq)
        rw [if_pos hl] at h
        cases hm : fs.toList.mapM fun f => DataW.trod enc P W base sp held fuel f.type ((cs.drop f.offset).take (P.cellsOf f.type)) with
        | none => simp [hm] at h
        | some elems =>
          obtain ⟨_, h2⟩ := mapM_get hm
          simp only [hm, Option.map_some, Option.some.injEq] at h
          subst h
          have hG := HG.st _ _ _ hu hg
          obtain ⟨xs, g1, g2, g3⟩ := fields_of (lim := lim) (W := W) (n := n) hl ht.1 (Nat.zero_le _) (fun f hf hlen => by
            obtain ⟨i, hi⟩ := List.getElem?_of_mem hf
            obtain ⟨y, hy, hy'⟩ := h2 i f hi
            exact trod_tr HG fuel (ht.2 f hf) hy hlen (hG i f y.1 hi (by rw [List.getElem?_map, hy']; rfl)))
          rw [List.drop_zero] at g1
          exact ⟨.agg xs, by simpa only [Tr.rel] using g1, xs, rfl, g2, g3⟩
      · exact (‹∀ fs_1 : Array Field, some (TypeDesc.struct fs) = some (TypeDesc.struct fs_1) → False› fs rfl).elim
    · rename_i m e hu
      simp only [Bool.and_eq_true] at ht
      obtain ⟨⟨⟨h1, h2⟩, h3⟩, h4⟩ := ht
      have h1 := beq_eq h1
      have h3 := beq_eq h3
      rw [hu] at h; (try simp only [hu])
      split at h <;> first | (rename_i heq; cases heq; done) | (rename_i heq _; cases heq; done) | (rename_i heq _ _; cases heq; done) | skip
      · rename_i cs _ _ m' e' heq
        obtain ⟨rfl, rfl⟩ := TypeDesc.array.inj (Option.some.inj heq)
        rw [if_pos hl] at h
        cases hm : (List.range m).mapM fun i => DataW.trod enc P W base sp held fuel e ((cs.drop (i * P.cellsOf e)).take (P.cellsOf e)) with
        | none => simp [hm] at h
        | some elems =>
          obtain ⟨_, hgg⟩ := mapM_get hm
          simp only [hm, Option.map_some, Option.some.injEq] at h
          subst h
          have hG := HG.arr _ _ _ _ hu hg
          have hcs : cs.length = m := by rw [hl, h3]
          have key : ∀ (k o : Nat), o + k = m → ∃ xs : List Tr, xs.length = k ∧ Tr.ones (roW W) xs (cs.drop o) ∧ ∀ y ∈ xs, TrTy P lim n e y := by
            intro k
            induction k with
            | zero => intro o ho; exact ⟨[], rfl, by simp only [Tr.ones]; rw [List.drop_eq_nil_of_le (by omega)], by simp⟩
            | succ k ih =>
              intro o ho
              obtain ⟨xs, g1, g2, g3⟩ := ih (o + 1) (by omega)
              obtain ⟨y, hy, hy'⟩ := hgg o o (by simp [show o < m by omega])
              rw [h1, Nat.mul_one] at hy
              have hol : o < cs.length := by omega
              have hd : cs.drop o = cs[o] :: cs.drop (o + 1) := List.drop_eq_getElem_cons hol
              have htk : (cs.drop o).take 1 = [cs[o]] := by rw [hd]; rfl
              rw [htk] at hy
              obtain ⟨x, hx, hxt⟩ := trod_tr HG fuel h4 hy (by rw [h1]; rfl) (hG _ (List.mem_map_of_mem (List.mem_of_getElem? hy')))
              refine ⟨x :: xs, by simp [g1], ?_, fun z hz => ?_⟩
              · simp only [Tr.ones]; exact ⟨cs[o], cs.drop (o + 1), hd, hxt.flat h2, hx, g2⟩
              · rcases List.mem_cons.1 hz with rfl | hz
                · exact hxt
                · exact g3 z hz
          obtain ⟨xs, g1, g2, g3⟩ := key m 0 (by omega)
          rw [List.drop_zero] at g2
          exact ⟨.arr m xs, by simp only [Tr.rel]; exact ⟨g1, g2⟩, xs, rfl, g1, g3⟩
      · exact (‹∀ (n : Nat) (e_1 : TypeId), some (TypeDesc.array m e) = some (TypeDesc.array n e_1) → False› m e rfl).elim
    · cases ht
end Stk
