/- Several texts of this claim, joined into one file. -/
import Derived.Test.YthkbahbbdacgeaaDoorZj7
import Derived.DataReads
import Derived.Below
import Derived.OpenShut
import Derived.WalkKit
import Derived.ProofKit
import Derived.ChangeOld
import Derived.SizedLaws
section
/- The framework, part 22: what is read of an argument is data. -/
namespace Stk
open Go

def roW (W : World) : Nat → Option (List Value) := fun k =>
  match W.heap[k]? with
  | some (.cells cs _ _) => some cs.toList
  | _ => none

theorem mapM_get {α β : Type} {f : α → Option β} : ∀ {l : List α} {ys : List β}, l.mapM f = some ys → ys.length = l.length ∧ ∀ (i : Nat) x, l[i]? = some x → ∃ y, f x = some y ∧ ys[i]? = some y
  | [], ys, h => by
    simp at h; subst h; exact ⟨rfl, fun i x hx => by simp at hx⟩
  | a :: l, ys, h => by
    rw [List.mapM_cons] at h
    cases ha : f a with
    | none => simp [ha] at h
    | some y =>
      cases hl : l.mapM f with
      | none => simp [ha, hl] at h
      | some zs =>
        simp [ha, hl] at h
        subst h
        obtain ⟨h1, h2⟩ := mapM_get hl
        refine ⟨by simp [h1], fun i x hx => ?_⟩
        cases i with
        | zero => simp at hx; subst hx; exact ⟨y, ha, rfl⟩
        | succ i => simpa using h2 i x (by simpa using hx)

theorem sub_of_get {cs l : List Value} {o : Nat} (hn : 0 < l.length) (h : ∀ i, i < l.length → cs[o + i]? = l[i]?) : Sub cs o l := by
  have hlen : o + l.length ≤ cs.length := by
    have := h (l.length - 1) (by omega)
    have hl : l[l.length - 1]? = some l[l.length - 1] := by simp
    rw [hl] at this
    have := lt_of_get this
    omega
  refine ⟨cs.take o, cs.drop (o + l.length), ?_, by rw [List.length_take]; omega⟩
  have hm : (cs.drop o).take l.length = l := by
    apply List.ext_getElem?
    intro i
    rw [List.getElem?_take]
    split
    · rename_i hi; rw [List.getElem?_drop]; exact h i hi
    · rename_i hi; rw [List.getElem?_eq_none (by omega)]
  have h1 : cs = cs.take o ++ cs.drop o := (List.take_append_drop o cs).symm
  have h2 : cs.drop o = l ++ cs.drop (o + l.length) := by
    have := (List.take_append_drop l.length (cs.drop o)).symm
    rw [hm, List.drop_drop] at this
    exact this
  rw [← h2]; exact h1

theorem cells_sub {W : World} {base : Nat} {a : Addr} {n : Nat} {l : List Value} (h : W.cells? base a n = some l) (hn : 0 < n) : l.length = n ∧ a.spot = none ∧ ∃ mem, roW W a.block = some mem ∧ Sub mem a.off l := by
  unfold World.cells? at h
  split at h
  · obtain ⟨h1, h2⟩ := mapM_get h
    rw [List.length_range] at h1
    have hc : ∀ i, i < n → ∃ y, W.cell? (a.add i) = some y ∧ l[i]? = some y := fun i hi => h2 i i (by simp [hi])
    obtain ⟨y0, hy0, _⟩ := hc 0 hn
    have hsp : a.spot = none := by
      have := World.cell?_spot hy0
      simpa [Addr.add] using this
    have hadd : ∀ i, a.add i = ⟨a.block, a.off + i, none⟩ := fun i => by
      unfold Addr.add
      split
      · rename_i hi; subst hi; cases a; simp_all
      · rfl
    refine ⟨h1, hsp, ?_⟩
    have : ∃ cs t fz, W.heap[a.block]? = some (.cells cs t fz) := by
      rw [hadd] at hy0
      unfold World.cell? at hy0
      cases hb : W.heap[a.block]? with
      | none => simp [hb] at hy0
      | some ob =>
        cases ob with
        | cells cs t fz => exact ⟨cs, t, fz, rfl⟩
        | _ => simp [hb] at hy0
    obtain ⟨cs, t, fz, hb⟩ := this
    refine ⟨cs.toList, by simp [roW, hb], sub_of_get (by omega) fun i hi => ?_⟩
    obtain ⟨y, hy, hl⟩ := hc i (by omega)
    rw [hadd, cell_of hb] at hy
    rw [hl]; simpa using hy
  · cases h

def flatT (P : Program) (t : TypeId) : Bool :=
  match P.underlying t with
  | some .bool | some (.int _) | some .string | some (.slice _) => true
  | _ => false
def offsOK (P : Program) : Nat → List Field → Nat → Bool
  | o, [], n => Nat.beq o n
  | o, f :: fs, n => Nat.beq f.offset o && offsOK P (o + P.cellsOf f.type) fs n
/-- Types of data without pointers. -/
def tyT (P : Program) : Nat → TypeId → Bool
  | 0, _ => false
  | n + 1, t => match P.underlying t with
    | some .bool | some (.int _) | some .string => true
    | some (.slice e) => Nat.ble 1 (P.cellsOf e) && tyT P n e
    | some (.struct fs) => offsOK P 0 fs.toList (P.cellsOf t) && fs.toList.all fun f => tyT P n f.type
    | some (.array m e) => Nat.beq (P.cellsOf e) 1 && flatT P e && Nat.beq (P.cellsOf t) m && tyT P n e
    | _ => false
structure Lim {K : Type} (P : Program) (lim : Nat → Nat → Prop) (G : TypeId → DataW K → Prop) : Prop where
  str : ∀ t bs, G t (.lit (.string bs)) → lim bs.length 1
  nil : ∀ b, lim 0 b
  sl : ∀ t e es sp, P.underlying t = some (.slice e) → G t (.slice es sp) → lim es.length (P.bytesOf e) ∧ ∀ d ∈ es, G e d
  st : ∀ t fs ps, P.underlying t = some (.struct fs) → G t (.agg ps) → ∀ (i : Nat) f d, fs.toList[i]? = some f → ps[i]? = some d → G f.type d
  arr : ∀ t m e ps, P.underlying t = some (.array m e) → G t (.agg ps) → ∀ d ∈ ps, G e d
def TrTy (P : Program) (lim : Nat → Nat → Prop) : Nat → TypeId → Tr → Prop
  | 0, _, _ => False
  | n + 1, t, x => match P.underlying t with
    | some .bool => ∃ b, x = .bool b
    | some (.int k) => ∃ i, x = .int k i ∧ (Lit.int k i).wf = true
    | some .string => ∃ s, x = .str s ∧ lim s.size 1
    | some (.slice e) => ∃ full xs, x = .sl full (P.cellsOf e) xs ∧ (full = true → xs = []) ∧ lim xs.length (P.bytesOf e) ∧ ∀ y ∈ xs, TrTy P lim n e y
    | some (.struct fs) => ∃ xs, x = .agg xs ∧ xs.length = fs.toList.length ∧ ∀ (i : Nat) f y, fs.toList[i]? = some f → xs[i]? = some y → TrTy P lim n f.type y
    | some (.array m e) => ∃ xs, x = .arr m xs ∧ xs.length = m ∧ ∀ y ∈ xs, TrTy P lim n e y
    | _ => False

theorem TrTy.flat {P : Program} {lim : Nat → Nat → Prop} {n : Nat} {t : TypeId} {x : Tr} (h : TrTy P lim n t x) (hf : flatT P t = true) : x.isAgg = false := by
  cases n with
  | zero => exact h.elim
  | succ n =>
    unfold TrTy at h
    unfold flatT at hf
    split at hf
    · rename_i hu; simp only [hu] at h; obtain ⟨_, rfl⟩ := h; rfl
    · rename_i hu; simp only [hu] at h; obtain ⟨_, rfl, _⟩ := h; rfl
    · rename_i hu; simp only [hu] at h; obtain ⟨_, rfl, _⟩ := h; rfl
    · rename_i hu; simp only [hu] at h; obtain ⟨_, _, rfl, _⟩ := h; rfl
    · cases hf

/-- Elements that lie side by side. -/
theorem row_of {P : Program} {lim : Nat → Nat → Prop} {W : World} {n e : Nat} {mem : List Value} : ∀ {k o : Nat} {segs : List (List Value)}, segs.length = k → (∀ (i : Nat) l, segs[i]? = some l → Sub mem (o + i * P.cellsOf e) l ∧ l.length = P.cellsOf e ∧ ∃ x, Tr.rel (roW W) x l ∧ TrTy P lim n e x) → o ≤ mem.length →
    ∃ xs mid, xs.length = k ∧ Sub mem o mid ∧ Tr.row (roW W) (P.cellsOf e) xs mid ∧ ∀ y ∈ xs, TrTy P lim n e y
  | k, o, [], hk, _, ho => ⟨[], [], hk, ⟨mem.take o, mem.drop o, by simp, by rw [List.length_take]; omega⟩, by simp [Tr.row], by simp⟩
  | k, o, l :: segs, hk, h, ho => by
    obtain ⟨⟨p, q, hm, hp⟩, h2, x, h3, h4⟩ := h 0 l rfl
    rw [Nat.zero_mul, Nat.add_zero] at hp
    have hlen : o + P.cellsOf e ≤ mem.length := by rw [hm]; simp [hp, h2]
    obtain ⟨xs, mid, g1, ⟨p2, q2, g2, g2'⟩, g3, g4⟩ := row_of (k := segs.length) (o := o + P.cellsOf e) (segs := segs) rfl (fun i l' hl' => by
      have := h (i + 1) l' (by simpa using hl')
      rw [Nat.succ_mul] at this
      rw [show o + P.cellsOf e + i * P.cellsOf e = o + (i * P.cellsOf e + P.cellsOf e) by omega]; exact this) hlen
    refine ⟨x :: xs, l ++ mid, by simp at hk; simp [g1, hk], ⟨p, q2, ?_, hp⟩, by simp only [Tr.row]; exact ⟨l, mid, rfl, h2, h3, g3⟩, fun y hy => ?_⟩
    · have h5 : mem.take (o + P.cellsOf e) = p ++ l := by rw [hm, ← List.append_assoc, List.take_append_of_le_length (by simp [hp, h2]), List.take_of_length_le (by simp [hp, h2])]
      have h6 : mem.take (o + P.cellsOf e) = p2 := by rw [g2, List.take_append_of_le_length (by omega), List.take_of_length_le (by omega)]
      rw [g2, ← h6, h5]; simp
    · rcases List.mem_cons.1 hy with rfl | hy
      · exact h4
      · exact g4 y hy

/-- Fields that lie side by side. -/
theorem fields_of {P : Program} {lim : Nat → Nat → Prop} {W : World} {n : Nat} {cs : List Value} {tot : Nat} (hcs : cs.length = tot) : ∀ {fs : List Field} {o : Nat}, offsOK P o fs tot = true → o ≤ tot →
    (∀ f ∈ fs, ((cs.drop f.offset).take (P.cellsOf f.type)).length = P.cellsOf f.type → ∃ x, Tr.rel (roW W) x ((cs.drop f.offset).take (P.cellsOf f.type)) ∧ TrTy P lim n f.type x) →
    ∃ xs, Tr.rels (roW W) xs (cs.drop o) ∧ xs.length = fs.length ∧ ∀ (i : Nat) f y, fs[i]? = some f → xs[i]? = some y → TrTy P lim n f.type y
  | [], o, h, ho, _ => by
    simp only [offsOK] at h
    have := beq_eq h
    refine ⟨[], ?_, rfl, fun i f y hf => by simp at hf⟩
    simp only [Tr.rels]
    rw [List.drop_eq_nil_of_le (by omega)]
  | f :: fs, o, h, ho, hx => by
    simp only [offsOK, Bool.and_eq_true] at h
    obtain ⟨h1, h2⟩ := h
    have h1 := beq_eq h1
    have hmono : ∀ (fs : List Field) (o : Nat), offsOK P o fs tot = true → o ≤ tot := by
      intro fs
      induction fs with
      | nil => intro o h; simp only [offsOK] at h; have := beq_eq h; omega
      | cons f fs ih => intro o h; simp only [offsOK, Bool.and_eq_true] at h; have := ih _ h.2; omega
    have hle := hmono fs _ h2
    obtain ⟨x, hr, ht⟩ := hx f (by simp) (by rw [List.length_take, List.length_drop, h1]; omega)
    obtain ⟨xs, g1, g2, g3⟩ := fields_of hcs h2 hle (fun f' hf' => hx f' (by simp [hf']))
    refine ⟨x :: xs, ?_, by simp [g2], fun i f' y hf hy => ?_⟩
    · simp only [Tr.rels]
      refine ⟨_, _, ?_, hr, g1⟩
      rw [h1, ← List.drop_drop, List.take_append_drop]
    · cases i with
      | zero => simp at hf hy; subst hf hy; exact ht
      | succ i => exact g3 i f' y (by simpa using hf) (by simpa using hy)

theorem trod_tr {K : Type} {enc : TypeId × Value → K} {P : Program} {lim : Nat → Nat → Prop} {G : TypeId → DataW K → Prop} (HG : Lim P lim G) {W : World} {base : Nat} {sp : Nat → Bool} {held : Bool} : ∀ (fuel : Nat) {n : Nat} {t : TypeId} {cs : List Value} {dp : DataW K × List MemPlace}, tyT P n t = true →
    DataW.trod enc P W base sp held fuel t cs = some dp → cs.length = P.cellsOf t → G t dp.1 → ∃ x, Tr.rel (roW W) x cs ∧ TrTy P lim n t x
  | 0, n, t, cs, dp, _, h, _, _ => by simp [DataW.trod] at h
  | fuel + 1, 0, t, cs, dp, ht, h, _, _ => by simp [tyT] at ht
  | fuel + 1, n + 1, t, cs, dp, ht, h, hl, hg => by
    unfold tyT at ht
    unfold DataW.trod at h
    unfold TrTy
    have out {α : Type} {a b : TypeDesc} (h : some a = some b) (hne : a ≠ b) : α := absurd (Option.some.inj h) hne
    split at ht
    · rename_i hu
      rw [hu] at h; (try simp only [hu])
      split at h <;> first | (rename_i heq; cases heq; done) | (rename_i heq _; cases heq; done) | (rename_i heq _ _; cases heq; done) | skip
      · rename_i b _; exact ⟨.bool b, by simp [Tr.rel], b, rfl⟩
      all_goals cases h
    · rename_i k hu
      rw [hu] at h; (try simp only [hu])
      split at h <;> first | (rename_i heq; cases heq; done) | (rename_i heq _; cases heq; done) | (rename_i heq _ _; cases heq; done) | skip
      · rename_i k1 k' i heq
        obtain rfl := TypeDesc.int.inj (Option.some.inj heq)
        split at h
        · rename_i hk
          obtain ⟨rfl, hw⟩ := hk
          exact ⟨.int k' i, by simp [Tr.rel], i, rfl, hw⟩
        · cases h
      all_goals cases h
    · rename_i hu
      rw [hu] at h; (try simp only [hu])
      split at h <;> first | (rename_i heq; cases heq; done) | (rename_i heq _; cases heq; done) | (rename_i heq _ _; cases heq; done) | skip
      · rename_i s heq
        split at h
        · rename_i hs
          cases h
          exact ⟨.str s, by simp [Tr.rel], s, rfl, by have := HG.str _ _ hg; rwa [Array.length_toList] at this⟩
        · cases h
      all_goals cases h
    · rename_i e hu
      simp only [Bool.and_eq_true] at ht
      have hpos := Nat.le_of_ble_eq_true ht.1
      rw [hu] at h; (try simp only [hu])
      split at h <;> first | (rename_i heq; cases heq; done) | (rename_i heq _; cases heq; done) | (rename_i heq _ _; cases heq; done) | skip
      · exact ⟨.sl true (P.cellsOf e) [], by simp [Tr.rel], true, [], rfl, fun _ => rfl, HG.nil _, by simp⟩
      · rename_i e' a len cap heq
        obtain rfl := TypeDesc.slice.inj (Option.some.inj heq)
        split at h
        · rename_i hb
          cases hm : (List.range len).mapM fun i => (W.cells? base (a.add (i * P.cellsOf e)) (P.cellsOf e)).bind (DataW.trod enc P W base sp held fuel e) with
          | none => simp [hm] at h
          | some elems =>
            obtain ⟨h1, h2⟩ := mapM_get hm
            rw [List.length_range] at h1
            have hG : lim len (P.bytesOf e) ∧ ∀ (i : Nat) y, elems[i]? = some y → G e y.1 := by
              simp only [hm, Option.bind_some, Option.map_eq_some_iff] at h
              obtain ⟨rest, _, rfl⟩ := h
              obtain ⟨g1, g2⟩ := HG.sl _ _ _ _ hu hg
              rw [List.length_map, h1] at g1
              exact ⟨g1, fun i y hy => g2 _ (List.mem_map_of_mem (List.mem_of_getElem? hy))⟩
            have hseg : ∀ i, i < len → ∃ l, W.cells? base (a.add (i * P.cellsOf e)) (P.cellsOf e) = some l ∧ ∃ x, Tr.rel (roW W) x l ∧ TrTy P lim n e x := by
              intro i hi
              obtain ⟨y, hy, hy'⟩ := h2 i i (by simp [hi])
              have hgy := hG.2 i y hy'
              cases hc : W.cells? base (a.add (i * P.cellsOf e)) (P.cellsOf e) with
              | none => simp [hc] at hy
              | some l =>
                simp only [hc, Option.bind_some] at hy
                exact ⟨l, rfl, trod_tr HG fuel ht.2 hy (cells_sub hc hpos).1 hgy⟩
            by_cases h0 : len = 0
            · subst h0
              exact ⟨.sl false (P.cellsOf e) [], by simp [Tr.rel], false, [], rfl, by simp, HG.nil _, by simp⟩
            · obtain ⟨l0, hl0, _⟩ := hseg 0 (by omega)
              rw [Nat.zero_mul] at hl0
              have ha0 : a.add 0 = a := by simp [Addr.add]
              rw [ha0] at hl0
              obtain ⟨_, hsp, mem, hmem, ⟨p0, q0, hm0, hp0⟩⟩ := cells_sub hl0 hpos
              have hadd : ∀ j, a.add j = ⟨a.block, a.off + j, none⟩ := fun j => by
                unfold Addr.add
                split
                · rename_i hi; subst hi; cases a; simp_all
                · rfl
              have hsegs : ∃ segs : List (List Value), segs.length = len ∧ ∀ (i : Nat) l, segs[i]? = some l → Sub mem (a.off + i * P.cellsOf e) l ∧ l.length = P.cellsOf e ∧ ∃ x, Tr.rel (roW W) x l ∧ TrTy P lim n e x := by
                refine ⟨(List.range len).map fun i => ((W.cells? base (a.add (i * P.cellsOf e)) (P.cellsOf e)).getD []), by simp, fun i l hl => ?_⟩
                have hi : i < len := by have := lt_of_get hl; simpa using this
                obtain ⟨l', hc, hx⟩ := hseg i hi
                simp [hi, hc] at hl
                subst hl
                obtain ⟨g1, _, mem', g3, g4⟩ := cells_sub hc hpos
                rw [hadd] at g3 g4
                have : mem' = mem := by
                  have g3 : roW W a.block = some mem' := g3
                  rw [hmem] at g3; exact (Option.some.inj g3).symm
                subst this
                exact ⟨g4, g1, hx⟩
              obtain ⟨segs, g1, g2⟩ := hsegs
              obtain ⟨xs, mid, k1, k2, k3, k4⟩ := row_of g1 g2 (by rw [hm0]; simp [hp0])
              refine ⟨.sl false (P.cellsOf e) xs, ?_, false, xs, rfl, by simp, by rw [k1]; exact hG.1, k4⟩
              simp only [Tr.rel]
              exact ⟨some a, cap, by rw [k1], by simp, by omega, .inr ⟨a, mem, mid, rfl, hsp, hmem, k2, k3⟩⟩
        · cases h
      all_goals cases h
    · rename_i fs hu
      simp only [Bool.and_eq_true, List.all_eq_true] at ht
      rw [hu] at h; (try simp only [hu])
      split at h <;> first | (rename_i heq; cases heq; done) | (rename_i heq _; cases heq; done) | (rename_i heq _ _; cases heq; done) | skip
      · rename_i cs _ _ fs' heq
        obtain rfl := TypeDesc.struct.inj (Option.some.inj heq)
        rw [if_pos hl] at h
        cases hm : fs.toList.mapM fun f => DataW.trod enc P W base sp held fuel f.type ((cs.drop f.offset).take (P.cellsOf f.type)) with
        | none => simp [hm] at h
        | some elems =>
          obtain ⟨_, h2⟩ := mapM_get hm
          simp only [hm, Option.map_some, Option.some.injEq] at h
          subst h
          have hG := HG.st _ _ _ hu hg
          obtain ⟨xs, g1, g2, g3⟩ := fields_of (lim := lim) (W := W) (n := n) hl ht.1 (Nat.zero_le _) (fun f hf hlen => by
            obtain ⟨i, hi⟩ := List.getElem?_of_mem hf
            obtain ⟨y, hy, hy'⟩ := h2 i f hi
            exact trod_tr HG fuel (ht.2 f hf) hy hlen (hG i f y.1 hi (by rw [List.getElem?_map, hy']; rfl)))
          rw [List.drop_zero] at g1
          exact ⟨.agg xs, by simpa only [Tr.rel] using g1, xs, rfl, g2, g3⟩
      · exact (‹∀ fs_1 : Array Field, some (TypeDesc.struct fs) = some (TypeDesc.struct fs_1) → False› fs rfl).elim
    · rename_i m e hu
      simp only [Bool.and_eq_true] at ht
      obtain ⟨⟨⟨h1, h2⟩, h3⟩, h4⟩ := ht
      have h1 := beq_eq h1
      have h3 := beq_eq h3
      rw [hu] at h; (try simp only [hu])
      split at h <;> first | (rename_i heq; cases heq; done) | (rename_i heq _; cases heq; done) | (rename_i heq _ _; cases heq; done) | skip
      · rename_i cs _ _ m' e' heq
        obtain ⟨rfl, rfl⟩ := TypeDesc.array.inj (Option.some.inj heq)
        rw [if_pos hl] at h
        cases hm : (List.range m).mapM fun i => DataW.trod enc P W base sp held fuel e ((cs.drop (i * P.cellsOf e)).take (P.cellsOf e)) with
        | none => simp [hm] at h
        | some elems =>
          obtain ⟨_, hgg⟩ := mapM_get hm
          simp only [hm, Option.map_some, Option.some.injEq] at h
          subst h
          have hG := HG.arr _ _ _ _ hu hg
          have hcs : cs.length = m := by rw [hl, h3]
          have key : ∀ (k o : Nat), o + k = m → ∃ xs : List Tr, xs.length = k ∧ Tr.ones (roW W) xs (cs.drop o) ∧ ∀ y ∈ xs, TrTy P lim n e y := by
            intro k
            induction k with
            | zero => intro o ho; exact ⟨[], rfl, by simp only [Tr.ones]; rw [List.drop_eq_nil_of_le (by omega)], by simp⟩
            | succ k ih =>
              intro o ho
              obtain ⟨xs, g1, g2, g3⟩ := ih (o + 1) (by omega)
              obtain ⟨y, hy, hy'⟩ := hgg o o (by simp [show o < m by omega])
              rw [h1, Nat.mul_one] at hy
              have hol : o < cs.length := by omega
              have hd : cs.drop o = cs[o] :: cs.drop (o + 1) := List.drop_eq_getElem_cons hol
              have htk : (cs.drop o).take 1 = [cs[o]] := by rw [hd]; rfl
              rw [htk] at hy
              obtain ⟨x, hx, hxt⟩ := trod_tr HG fuel h4 hy (by rw [h1]; rfl) (hG _ (List.mem_map_of_mem (List.mem_of_getElem? hy')))
              refine ⟨x :: xs, by simp [g1], ?_, fun z hz => ?_⟩
              · simp only [Tr.ones]; exact ⟨cs[o], cs.drop (o + 1), hd, hxt.flat h2, hx, g2⟩
              · rcases List.mem_cons.1 hz with rfl | hz
                · exact hxt
                · exact g3 z hz
          obtain ⟨xs, g1, g2, g3⟩ := key m 0 (by omega)
          rw [List.drop_zero] at g2
          exact ⟨.arr m xs, by simp only [Tr.rel]; exact ⟨g1, g2⟩, xs, rfl, g1, g3⟩
      · exact (‹∀ (n : Nat) (e_1 : TypeId), some (TypeDesc.array m e) = some (TypeDesc.array n e_1) → False› m e rfl).elim
    · cases ht
end Stk
end

section
/- The framework, part 23: a law's contract, as the row wants it. -/
namespace Stk
open Go Go.RowKit

def env0 (W : World) : Env := ⟨fun _ => .no, roW W, fun _ => none, fun _ _ => False⟩
theorem rel0 (W : World) : Rel [] (env0 W) [] W := by
  refine ⟨?_, ?_, ?_, ?_, ?_, ?_, ?_, ?_, ?_⟩
  · intro b o h; simp at h
  · intro b o h; simp at h
  · intro b o h; simp at h
  · intro b h; simp at h
  · intro b h; exact absurd rfl h
  · rintro b b' ⟨o, h, _⟩; simp at h
  · rintro b ⟨o, h, _⟩; simp at h
  · intro k m h
    rcases h with h | h
    · have h : roW W k = some m := h
      unfold roW at h
      split at h
      · rename_i cs t fz hk; exact ⟨cs, t, fz, hk, by simpa using h⟩
      · cases h
    · cases h
  · intro g x h; cases h

theorem law_calls {P : Program} {f : FuncId} {xs : List Tr} {args : Array Value} {W : World} (h : ACalls P [] f (toAVs xs) [] fun r _ => r = .t (.bool true)) (hv : AV.vals (env0 W) (toAVs xs) args.toList) :
    Calls P f args W fun en W' => en = .returned (.bool true) ∧ Below W.heap.size W W' := by
  refine Calls.mono (h.2 (env0 W) W args (rel0 W) hv) ?_
  rintro en W' ⟨r, c, e', H', rfl, rfl, hrv, hst⟩
  refine ⟨by rw [val_bool' hrv], hst.wle.os, hst.wle.tape, hst.wle.output, hst.wle.size, fun k hk => hst.wle.frame k hk ?_⟩
  rintro ⟨b, ⟨o, ho, _⟩, _⟩
  simp at ho

theorem TrTy.notFlat {P : Program} {lim : Nat → Nat → Prop} {n : Nat} {t : TypeId} {x : Tr} (h : TrTy P lim n t x) (hf : flatT P t = false) : x.isAgg = true ∧ ((∃ fs, P.underlying t = some (.struct fs)) ∨ ∃ m e, P.underlying t = some (.array m e)) := by
  cases n with
  | zero => exact h.elim
  | succ n =>
    unfold TrTy at h
    unfold flatT at hf
    split at h
    · rename_i hu; simp [hu] at hf
    · rename_i hu; simp [hu] at hf
    · rename_i hu; simp [hu] at hf
    · rename_i hu; simp [hu] at hf
    · rename_i fs hu; obtain ⟨_, rfl, _⟩ := h; exact ⟨rfl, .inl ⟨fs, hu⟩⟩
    · rename_i m e hu; obtain ⟨_, rfl, _⟩ := h; exact ⟨rfl, .inr ⟨m, e, hu⟩⟩
    · exact h.elim

theorem tyT_notFlat {P : Program} {n : Nat} {t : TypeId} (h : tyT P n t = true) (hf : flatT P t = false) : (∃ fs, P.underlying t = some (.struct fs)) ∨ ∃ m e, P.underlying t = some (.array m e) := by
  cases n with
  | zero => simp [tyT] at h
  | succ n =>
    unfold tyT at h
    unfold flatT at hf
    split at h
    · rename_i hu; simp [hu] at hf
    · rename_i hu; simp [hu] at hf
    · rename_i hu; simp [hu] at hf
    · rename_i hu; simp [hu] at hf
    · rename_i fs hu; exact .inl ⟨fs, hu⟩
    · rename_i m e hu; exact .inr ⟨m, e, hu⟩
    · cases h

/-- An argument as data. -/
theorem arg_val {K : Type} {enc : TypeId × Value → K} {P : Program} {lim : Nat → Nat → Prop} {G : TypeId → DataW K → Prop} (HG : Lim P lim G) {W : World} {base n : Nat} {sp : Nat → Bool} {held : Bool} {t : TypeId} {v : Value} {d : DataW K} {ps : List MemPlace} (ht : tyT P n t = true) (hok : Value.okWide P W .any base t v) (hd : DataW.Trod enc P W 0 sp held t v d ps) (hg : G t d)
    (hc : flatT P t = true → P.cellsOf t = 1) : ∃ x, AV.val (env0 W) (.t x) v ∧ TrTy P lim n t x := by
  obtain ⟨fuel, hd⟩ := hd
  cases hf : flatT P t with
  | true =>
    have h1 : v.cells.toList = [v] := by
      unfold flatT at hf
      split at hf
      · rename_i hu; simp only [Value.okWide, hu, Cell.okWide] at hok; cases v <;> simp_all [Cell.ok, Value.cells]
      · rename_i hu; simp only [Value.okWide, hu, Cell.okWide] at hok; cases v <;> simp_all [Cell.ok, Value.cells]
      · rename_i hu; simp only [Value.okWide, hu, Cell.okWide] at hok; cases v <;> simp_all [Cell.ok, Value.cells]
      · rename_i hu; simp only [Value.okWide, hu, Cell.okWide] at hok; cases v <;> simp_all [Cell.ok, Value.cells]
      · cases hf
    obtain ⟨x, hx, hxt⟩ := trod_tr HG fuel ht hd (by rw [h1, hc hf]; rfl) hg
    rw [h1] at hx
    exact ⟨x, by simp only [AV.val, hxt.flat hf]; exact hx, hxt⟩
  | false =>
    have h1 : ∃ cs, v = .agg cs ∧ cs.size = P.cellsOf t := by
      rcases tyT_notFlat ht hf with ⟨fs, hu⟩ | ⟨m, e, hu⟩
      · simp only [Value.okWide, hu] at hok
        obtain ⟨cs, h1, h2, _⟩ := hok
        exact ⟨cs, h1, h2⟩
      · simp only [Value.okWide, hu] at hok
        obtain ⟨cs, h1, h2, _⟩ := hok
        exact ⟨cs, h1, h2⟩
    obtain ⟨cs, rfl, h2⟩ := h1
    obtain ⟨x, hx, hxt⟩ := trod_tr HG fuel ht hd (by simpa [Value.cells] using h2) hg
    have := (hxt.notFlat hf).1
    have hx : Tr.rel (roW W) x cs.toList := by simpa [Value.cells] using hx
    exact ⟨x, by simp only [AV.val, this]; exact ⟨cs, rfl, hx⟩, hxt⟩
end Stk
end

section
/- The framework, part 24: closed runs. -/
namespace Stk
open Go

theorem sat_mono {X : Cx} {Q Q' : Ex → Fr → Hp → Prop} (hq : ∀ e fr H, Q e fr H → Q' e fr H) : ∀ {t : T}, sat X Q t → sat X Q' t := by
  intro t
  induction t with
  | ret e fr H => exact fun h => hq _ _ _ h
  | stuck s => exact fun h => h
  | br b t e iht ihe => exact fun h => ⟨fun hb => iht (h.1 hb), fun hb => ihe (h.2 hb)⟩
  | any t e iht ihe => exact fun h => ⟨iht h.1, ihe h.2⟩
  | asrt b k ih => exact fun h => ⟨h.1, ih h.2⟩
  | idx xs i k ih => exact fun ⟨x, h1, h2, h3⟩ => ⟨x, h1, h2, ih x h3⟩
  | rng k n f ih => exact fun h => ih _ h
  | eqv v v' k ih => exact fun h => ⟨h.1, ih h.2⟩
  | same es es' k ih => exact fun h => ⟨h.1, ih h.2⟩
  | nxt es es' left over k iho ihk => exact fun h => ⟨h.1, fun hl => iho (h.2.1 hl), fun j p hp => ihk _ _ (h.2.2 j p hp)⟩
  | idxD ms i k ih => exact fun ⟨v, Hs, h1, h2⟩ => ⟨v, Hs, h1, ih v Hs h2⟩
  | call f args H k ih => exact fun ⟨Q0, h1, h2⟩ => ⟨Q0, h1, fun r H' hr => ih r H' (h2 r H' hr)⟩
  | loop live keep mv c fr H k ih => exact fun ⟨Q0, h1, h2⟩ => ⟨Q0, h1, fun e fr' H' hr => ih e fr' H' (h2 e fr' H' hr)⟩

def natsEq : List Nat → List Nat → Bool
  | [], [] => true
  | a :: r, b :: s => Nat.beq a b && natsEq r s
  | _, _ => false
theorem natsEq_eq : ∀ {a b : List Nat}, natsEq a b = true → a = b
  | [], b, h => by cases b <;> simp_all [natsEq]
  | x :: r, b, h => by
    cases b <;> simp only [natsEq, Bool.and_eq_true, Bool.false_eq_true] at h
    rw [beq_eq h.1, natsEq_eq h.2]
def onEq : Option Nat → Option Nat → Bool
  | none, none => true
  | some a, some b => Nat.beq a b
  | _, _ => false
theorem onEq_eq {a b : Option Nat} (h : onEq a b = true) : a = b := by
  cases a <;> cases b <;> simp only [onEq, Bool.false_eq_true] at h
  · rfl
  · rw [beq_eq h]
mutual
def avEq : AV → AV → Bool
  | .t x, .t y => x.same y
  | .undef, .undef => true
  | .mp a, .mp b => Nat.beq a b
  | .ptr b i o p ix, .ptr b' i' o' p' ix' => Nat.beq b b' && Nat.beq i i' && Nat.beq o o' && natsEq p p' && onEq ix ix'
  | .sl b o p off len cap, .sl b' o' p' off' len' cap' => Nat.beq b b' && Nat.beq o o' && natsEq p p' && Nat.beq off off' && Nat.beq len len' && onEq cap cap'
  | .bz e xs, .bz e' ys => Nat.beq e e' && Tr.sames xs ys
  | .vp x, .vp y => x.same y
  | .agg xs, .agg ys => avsEq xs ys
  | .tup xs, .tup ys => avsEq xs ys
  | .fn f xs ys, .fn f' xs' ys' => Nat.beq f f' && avsEq xs xs' && avsEq ys ys'
  | _, _ => false
def avsEq : List AV → List AV → Bool
  | [], [] => true
  | x :: xs, y :: ys => avEq x y && avsEq xs ys
  | _, _ => false
end
mutual
theorem avEq_eq : ∀ {a b : AV}, avEq a b = true → a = b
  | .t x, b, h => by cases b <;> simp only [avEq, Bool.false_eq_true] at h; rw [Tr.same_eq h]
  | .undef, b, h => by cases b <;> simp only [avEq, Bool.false_eq_true] at h; rfl
  | .mp a, b, h => by cases b <;> simp only [avEq, Bool.false_eq_true] at h; rw [beq_eq h]
  | .ptr _ _ _ _ _, b, h => by
    cases b <;> simp only [avEq, Bool.false_eq_true, Bool.and_eq_true] at h
    rw [beq_eq h.1.1.1.1, beq_eq h.1.1.1.2, beq_eq h.1.1.2, natsEq_eq h.1.2, onEq_eq h.2]
  | .sl _ _ _ _ _ _, b, h => by
    cases b <;> simp only [avEq, Bool.false_eq_true, Bool.and_eq_true] at h
    rw [beq_eq h.1.1.1.1.1, beq_eq h.1.1.1.1.2, natsEq_eq h.1.1.1.2, beq_eq h.1.1.2, beq_eq h.1.2, onEq_eq h.2]
  | .bz _ _, b, h => by
    cases b <;> simp only [avEq, Bool.false_eq_true, Bool.and_eq_true] at h
    rw [beq_eq h.1, Tr.sames_eq h.2]
  | .vp x, b, h => by cases b <;> simp only [avEq, Bool.false_eq_true] at h; rw [Tr.same_eq h]
  | .agg xs, b, h => by cases b <;> simp only [avEq, Bool.false_eq_true] at h; rw [avsEq_eq h]
  | .tup xs, b, h => by cases b <;> simp only [avEq, Bool.false_eq_true] at h; rw [avsEq_eq h]
  | .fn _ _ _, b, h => by
    cases b <;> simp only [avEq, Bool.false_eq_true, Bool.and_eq_true] at h
    rw [beq_eq h.1.1, avsEq_eq h.1.2, avsEq_eq h.2]
theorem avsEq_eq : ∀ {a b : List AV}, avsEq a b = true → a = b
  | [], b, h => by cases b <;> simp_all [avsEq]
  | x :: xs, b, h => by
    cases b <;> simp only [avsEq, Bool.false_eq_true, Bool.and_eq_true] at h
    rw [avEq_eq h.1, avsEq_eq h.2]
end

def entsEq : List (Tr × Tr) → List (Tr × Tr) → Bool
  | [], [] => true
  | (a, b) :: r, (c, d) :: s => a.same c && b.same d && entsEq r s
  | _, _ => false
theorem entsEq_eq : ∀ {a b : List (Tr × Tr)}, entsEq a b = true → a = b
  | [], [], _ => rfl
  | [], _ :: _, h => by simp [entsEq] at h
  | _ :: _, [], h => by simp [entsEq] at h
  | (a, b) :: r, (c, d) :: s, h => by
    simp only [entsEq, Bool.and_eq_true] at h
    rw [Tr.same_eq h.1.1, Tr.same_eq h.1.2, entsEq_eq h.2]

def bodyS (c : Bool) (ir : IF) (args : List AV) (H : Hp) : T :=
  match c with
  | true => bodyC ir args H
  | false => bodyT ir args H
theorem acalls_ofS {P : Program} {G : Gl} {f : FuncId} {fn : Func} {ir : IF} (c : Bool) (hf : P.funcs[f]? = some fn) (hname : (fn.name == "runtime.NumGoroutine") = false) (hc : chkF P G fn ir = true) {args : List AV} {H : Hp} {Q : AV → Hp → Prop}
    (hl : args.length ≤ fn.ntmps) (h : sat (mkX P G fn.ntmps) (retP Q) (bodyS c ir args H)) : ACalls P G f args H Q := by
  cases c with
  | true => exact acalls_ofC hf hname hc hl h
  | false => exact acalls_of hf hname hc hl h

/-- Each run of a closed tree comes to what q wants. -/
def okT (c : Bool) (tab : FuncId → Option IF) : Nat → T → (Ex → Fr → Hp → Bool) → Bool
  | 0, _, _ => false
  | n + 1, t, q => match t with
    | .ret e fr H => q e fr H
    | .stuck _ => false
    | .br true t _ => okT c tab n t q
    | .br false _ e => okT c tab n e q
    | .any t e => okT c tab n t q && okT c tab n e q
    | .asrt b k => b && okT c tab n k q
    | .idx xs i k => match i with
      | .ofNat j => (match xs[j]? with
        | some x => okT c tab n (k x) q
        | none => false)
      | _ => false
    | .rng k m f => okT c tab n (f (k.wrap m)) q
    | .eqv v v' k => avEq v v' && okT c tab n k q
    | .same es es' k => entsEq es es' && okT c tab n k q
    | .nxt es es' left over k => entsEq es es' && (match left with
      | [] => okT c tab n over q
      | [p] => okT c tab n (k p []) q
      | _ => false)
    | .idxD ms i k => match ms[i]? with
      | some (v, Hs) => okT c tab n (k v Hs) q
      | none => false
    | .call f args H k => match tab f with
      | some ir => Nat.ble args.length ir.ntmps && okT c tab n (bodyS c ir args H) fun e fr H' => match e, fr with
        | .ret, [(_, r)] => okT c tab n (k r H') q
        | _, _ => false
      | none => false
    | .loop live keep mv lc fr H k => okT c tab n (roundT live keep mv lc fr H) fun e fr' H' => match e with
      | .normal => okT c tab n (.loop live keep mv lc fr' H' k) q
      | e => okT c tab n (k e fr' H') q

structure TabOK (P : Program) (G : Gl) (tab : FuncId → Option IF) : Prop where
  fn : ∀ f ir, tab f = some ir → ∃ fn, P.funcs[f]? = some fn ∧ (fn.name == "runtime.NumGoroutine") = false ∧ chkF P G fn ir = true ∧ fn.ntmps = ir.ntmps

theorem okT_sound {c : Bool} {P : Program} {G : Gl} {tab : FuncId → Option IF} (hT : TabOK P G tab) : ∀ (n : Nat) {N : Nat} {t : T} {q : Ex → Fr → Hp → Bool}, okT c tab n t q = true → sat (mkX P G N) (fun e fr H => q e fr H = true) t := by
  intro n
  induction n using Nat.strongRecOn with
  | _ n ih =>
    intro N t q h
    cases n with
    | zero => simp [okT] at h
    | succ n =>
      have ih1 : ∀ {N : Nat} {t : T} {q : Ex → Fr → Hp → Bool}, okT c tab n t q = true → sat (mkX P G N) (fun e fr H => q e fr H = true) t := ih n (Nat.lt_succ_self n)
      cases t with
      | ret e fr H => exact h
      | stuck s => simp [okT] at h
      | br b t e =>
        cases b with
        | true => exact ⟨fun _ => ih1 h, fun hb => by cases hb⟩
        | false => exact ⟨fun hb => (by cases hb), fun _ => ih1 h⟩
      | any t e => simp only [okT, Bool.and_eq_true] at h; exact ⟨ih1 h.1, ih1 h.2⟩
      | asrt b k => simp only [okT, Bool.and_eq_true] at h; exact ⟨h.1, ih1 h.2⟩
      | idx xs i k =>
        cases i with
        | ofNat j =>
          simp only [okT] at h
          split at h
          · rename_i x hx; exact ⟨x, by simp, by simpa using hx, ih1 h⟩
          · cases h
        | negSucc j => simp [okT] at h
      | rng k m f => simp only [okT] at h; exact (ih1 h : sat (mkX P G N) (fun e fr H => q e fr H = true) (f (k.wrap m)))
      | eqv v v' k => simp only [okT, Bool.and_eq_true] at h; exact ⟨avEq_eq h.1, ih1 h.2⟩
      | same es es' k => simp only [okT, Bool.and_eq_true] at h; exact ⟨entsEq_eq h.1, ih1 h.2⟩
      | nxt es es' left over k =>
        simp only [okT, Bool.and_eq_true] at h
        obtain ⟨h1, h⟩ := h
        split at h
        · exact ⟨entsEq_eq h1, fun _ => ih1 h, fun j p hp => (by simp at hp)⟩
        · rename_i p0
          refine ⟨entsEq_eq h1, fun hl => (by cases hl), fun j p hp => ?_⟩
          cases j with
          | zero => simp at hp; subst hp; exact ih1 h
          | succ j => simp at hp
        · cases h
      | idxD ms i k =>
        simp only [okT] at h
        split at h
        · rename_i v Hs hx; exact ⟨v, Hs, hx, ih1 h⟩
        · cases h
      | call f args H k =>
        simp only [okT] at h
        split at h
        · rename_i ir hir
          simp only [Bool.and_eq_true] at h
          obtain ⟨fn, h1, h2, h3, h4⟩ := hT.fn f ir hir
          refine ⟨fun r H' => okT c tab n (k r H') q = true, acalls_ofS c h1 h2 h3 (by rw [h4]; exact Nat.le_of_ble_eq_true h.1) (sat_mono ?_ (ih1 h.2)), fun r H' hr => ih1 hr⟩
          intro e fr H' hq
          unfold retP
          split at hq
          · exact hq
          · cases hq
        · cases h
      | loop live keep mv lc fr H k =>
        simp only [okT] at h
        refine ⟨fun e fr' H' => okT c tab n (k e fr' H') q = true ∨ ∃ m, m ≤ n ∧ okT c tab m (k e fr' H') q = true, ?_, fun e fr' H' hr => ?_⟩
        · let σ := { p : Nat × Fr × Hp // p.1 ≤ n ∧ okT c tab p.1 (roundT live keep mv lc p.2.1 p.2.2) (fun e fr' H' => match e with
            | .normal => okT c tab p.1 (.loop live keep mv lc fr' H' k) q
            | e => okT c tab p.1 (k e fr' H') q) = true }
          exact aloop_of (X := mkX P G N) mkX_ops (σ := σ) (fun y => y.1.2.1) (fun y => y.1.2.2) (fun y => y.1.1) (live := live) (keep := keep) (mv := mv) (c := lc) (fun y => by
            obtain ⟨⟨m, fr1, H1⟩, hm, hy⟩ := y
            have := ih m (by omega) (N := N) hy
            refine sat_mono ?_ this
            intro e fr' H' hq
            cases e with
            | normal =>
              cases m with
              | zero => simp [okT] at hq
              | succ m =>
                simp only [okT] at hq
                exact ⟨⟨(m, fr', H'), by simp only at hm; omega, hq⟩, rfl, rfl, Nat.lt_succ_self m⟩
            | exit i => exact .inr ⟨m, hm, hq⟩
            | ret => exact .inr ⟨m, hm, hq⟩) ⟨(n, fr, H), Nat.le_refl _, h⟩
        · rcases hr with hr | ⟨m, hm, hr⟩
          · exact ih1 hr
          · exact ih m (by omega) hr

/-! ### Functions of a program, by number and compact code -/
structure FunOK (P : Program) (G : Gl) (f : FuncId) (ir : IF) : Prop where
  ex : ∃ fn, P.funcs[f]? = some fn ∧ (fn.name == "runtime.NumGoroutine") = false ∧ chkF P G fn ir = true ∧ fn.ntmps = ir.ntmps
theorem FunOK.mk' {P : Program} {G : Gl} {f : FuncId} {ir : IF} {fn : Func} (h1 : P.funcs[f]? = some fn) (h2 : (fn.name == "runtime.NumGoroutine") = false) (h3 : chkF P G fn ir = true) (h4 : fn.ntmps = ir.ntmps) : FunOK P G f ir := ⟨fn, h1, h2, h3, h4⟩
theorem FunOK.calls {P : Program} {G : Gl} {f : FuncId} {ir : IF} (h : FunOK P G f ir) {args : List AV} {H : Hp} {Q : AV → Hp → Prop} (hl : Nat.ble args.length ir.ntmps = true) (hs : sat (mkX P G ir.ntmps) (retP Q) (bodyT ir args H)) : ACalls P G f args H Q := by
  obtain ⟨fn, h1, h2, h3, h4⟩ := h.ex
  exact acalls_of h1 h2 h3 (by rw [h4]; exact Nat.le_of_ble_eq_true hl) (by rw [h4]; exact hs)
theorem FunOK.callsC {P : Program} {G : Gl} {f : FuncId} {ir : IF} (h : FunOK P G f ir) {args : List AV} {H : Hp} {Q : AV → Hp → Prop} (hl : Nat.ble args.length ir.ntmps = true) (hs : sat (mkX P G ir.ntmps) (retP Q) (bodyR ir args H)) : ACalls P G f args H Q := by
  rw [bodyR_eq] at hs
  obtain ⟨fn, h1, h2, h3, h4⟩ := h.ex
  exact acalls_ofC h1 h2 h3 (by rw [h4]; exact Nat.le_of_ble_eq_true hl) (by rw [h4]; exact hs)
theorem FunOK.callsQ {P : Program} {G : Gl} {f : FuncId} {ir : IF} (h : FunOK P G f ir) {args : List AV} {H : Hp} {Q : AV → Hp → Prop} (hl : Nat.ble args.length ir.ntmps = true) (hs : sat (mkX P G ir.ntmps) (retP Q) (bodyQ ir args H)) : ACalls P G f args H Q := by
  rw [bodyQ_eq] at hs
  obtain ⟨fn, h1, h2, h3, h4⟩ := h.ex
  exact acalls_ofQ h1 h2 h3 (by rw [h4]; exact Nat.le_of_ble_eq_true hl) (by rw [h4]; exact hs)
theorem FunOK.callsD {P : Program} {G : Gl} {f : FuncId} {ir : IF} (h : FunOK P G f ir) {args : List AV} {H : Hp} {Q : AV → Hp → Prop} (hl : Nat.ble args.length ir.ntmps = true) (hs : sat (mkX P G ir.ntmps) (retP Q) (bodyD ir args H)) : ACalls P G f args H Q := by
  rw [bodyD_eq] at hs
  obtain ⟨fn, h1, h2, h3, h4⟩ := h.ex
  exact acalls_ofD h1 h2 h3 (by rw [h4]; exact Nat.le_of_ble_eq_true hl) (by rw [h4]; exact hs)
theorem ACalls.mono {P : Program} {G : Gl} {f : FuncId} {args : List AV} {H : Hp} {Q Q' : AV → Hp → Prop} (h : ACalls P G f args H Q) (hq : ∀ r H', Q r H' → Q' r H') : ACalls P G f args H Q' :=
  ⟨h.1, fun e w cargs hr hv => Calls.mono (h.2 e w cargs hr hv) (fun _ _ ⟨r, c, e', H', h1, h2, h3, h4⟩ => ⟨r, c, e', H', h1, hq _ _ h2, h3, h4⟩)⟩

def tabL : List (FuncId × IF) → FuncId → Option IF
  | [], _ => none
  | (g, ir) :: r, f => match Nat.beq f g with
    | true => some ir
    | false => tabL r f
def TabsOK (P : Program) (G : Gl) : List (FuncId × IF) → Prop
  | [] => True
  | (g, ir) :: r => FunOK P G g ir ∧ TabsOK P G r
theorem tabOK_of {P : Program} {G : Gl} : ∀ {l : List (FuncId × IF)}, TabsOK P G l → TabOK P G (tabL l)
  | [], _ => ⟨fun f ir h => by simp [tabL] at h⟩
  | (g, ir0) :: r, h => ⟨fun f ir hf => by
    simp only [tabL] at hf
    split at hf
    · rename_i hb
      cases hf
      obtain ⟨fn, k⟩ := h.1.ex
      exact ⟨fn, by rw [beq_eq hb]; exact k⟩
    · exact (tabOK_of h.2).fn f ir hf⟩
def isTrue : Ex → Fr → Hp → Bool
  | .ret, [(_, .t (.bool b))], _ => b
  | _, _, _ => false
theorem isTrue_ret {e : Ex} {fr : Fr} {H : Hp} (h : isTrue e fr H = true) : retP (fun r _ => r = .t (.bool true)) e fr H := by
  unfold isTrue at h
  split at h
  · rename_i b; subst h; exact rfl
  · cases h
/-- A closed function that returns true. -/
theorem known_calls {P : Program} {G : Gl} {f : FuncId} {ir : IF} (h : FunOK P G f ir) {l : List (FuncId × IF)} (hT : TabsOK P G l) (c : Bool) (n : Nat) (hn : okT c (tabL l) n (bodyS c ir [] []) isTrue = true) : ACalls P G f [] [] fun r _ => r = .t (.bool true) :=
  by
    have := sat_mono (fun _ _ _ h => isTrue_ret h) (okT_sound (N := ir.ntmps) (tabOK_of hT) n hn)
    cases c with
    | true => exact h.callsC rfl (by rw [bodyR_eq]; exact this)
    | false => exact h.calls rfl this
def isTrue0 : Ex → Fr → Hp → Bool
  | .ret, [(_, .t (.bool b))], [] => b
  | _, _, _ => false
theorem isTrue0_ret {e : Ex} {fr : Fr} {H : Hp} (h : isTrue0 e fr H = true) : retP (fun r H' => r = .t (.bool true) ∧ H' = []) e fr H := by
  unfold isTrue0 at h
  split at h
  · rename_i b; subst h; exact ⟨rfl, rfl⟩
  · cases h
theorem known_calls0 {P : Program} {G : Gl} {f : FuncId} {ir : IF} (h : FunOK P G f ir) {l : List (FuncId × IF)} (hT : TabsOK P G l) (n : Nat) (hn : okT true (tabL l) n (bodyC ir [] []) isTrue0 = true) : ACalls P G f [] [] fun r H' => r = .t (.bool true) ∧ H' = [] :=
  h.callsC rfl (by rw [bodyR_eq]; exact sat_mono (fun _ _ _ h => isTrue0_ret h) (okT_sound (N := ir.ntmps) (tabOK_of hT) n hn))
end Stk
end

section
/- The framework, part 25: types of arguments, by their forms alone. -/
namespace Stk
open Go Go.RowKit

inductive TyD where
  | bool
  | int (k : IntKind)
  | str
  | sl (esz : Nat) (e : TyD)
  | st (fs : List TyD)
  | arr (n : Nat) (e : TyD)
  | pad (n : Nat)
mutual
def TyD.bytes : TyD → Nat
  | .bool => 1
  | .int k => IntKind.bits k / 8
  | .str => 16
  | .sl _ _ => 24
  | .st fs => TyD.bytesAll fs
  | .arr n e => n * e.bytes
  | .pad n => n
def TyD.bytesAll : List TyD → Nat
  | [] => 0
  | f :: fs => f.bytes + TyD.bytesAll fs
end
/-- What the form's own reach says of a list of so many elements of so many bytes. -/
def limS (n b : Nat) : Prop := n * b ≤ 140737488351232
mutual
def TrL (lim : Nat → Nat → Prop) : TyD → Tr → Prop
  | .bool, x => ∃ b, x = .bool b
  | .int k, x => ∃ i, x = .int k i ∧ (Lit.int k i).wf = true
  | .str, x => ∃ s, x = .str s ∧ lim s.size 1
  | .sl esz e, x => ∃ full xs, x = .sl full esz xs ∧ (full = true → xs = []) ∧ lim xs.length e.bytes ∧ ∀ y ∈ xs, TrL lim e y
  | .st fs, x => ∃ xs, x = .agg xs ∧ TrLs lim fs xs
  | .arr n e, x => ∃ xs, x = .arr n xs ∧ xs.length = n ∧ ∀ y ∈ xs, TrL lim e y
  | .pad _, _ => False
def TrLs (lim : Nat → Nat → Prop) : List TyD → List Tr → Prop
  | [], xs => xs = []
  | .pad _ :: fs, xs => TrLs lim fs xs
  | f :: fs, xs => ∃ y ys, xs = y :: ys ∧ TrL lim f y ∧ TrLs lim fs ys
end
abbrev TrD : TyD → Tr → Prop := TrL limS
def tyDs (f : TypeId → TyD → Bool) : List Field → List TyD → Bool
  | [], [] => true
  | fs, .pad _ :: ds => tyDs f fs ds
  | fl :: fs, d :: ds => f fl.type d && tyDs f fs ds
  | _, _ => false
def tyD (P : Program) : Nat → TypeId → TyD → Bool
  | 0, _, _ => false
  | n + 1, t, d => match P.underlying t, d with
    | some .bool, .bool => true
    | some (.int k), .int j => kindEq k j
    | some .string, .str => true
    | some (.slice e), .sl esz d => (Nat.beq (P.cellsOf e) esz && Nat.ble d.bytes (P.bytesOf e)) && tyD P n e d
    | some (.struct fs), .st ds => tyDs (tyD P n) fs.toList ds
    | some (.array m e), .arr k d => Nat.beq m k && tyD P n e d
    | _, _ => false
theorem tyDs_sound {P : Program} {lim : Nat → Nat → Prop} {n : Nat} {f : TypeId → TyD → Bool} (ih : ∀ t d x, f t d = true → TrTy P lim n t x → TrL lim d x) : ∀ {fs : List Field} {ds : List TyD} {xs : List Tr}, tyDs f fs ds = true → xs.length = fs.length → (∀ (i : Nat) fl y, fs[i]? = some fl → xs[i]? = some y → TrTy P lim n fl.type y) → TrLs lim ds xs
  | fs, [], xs, h, hl, _ => by
    cases fs with
    | nil => simp only [TrLs]; exact List.eq_nil_of_length_eq_zero (by simpa using hl)
    | cons _ _ => simp [tyDs] at h
  | fs, d :: ds, xs, h, hl, hx => by
    by_cases hd : ∃ k, d = .pad k
    · obtain ⟨k, rfl⟩ := hd
      simp only [TrLs]
      refine tyDs_sound ih (ds := ds) ?_ hl hx
      cases fs <;> simpa only [tyDs] using h
    · have e1 : TrLs lim (d :: ds) xs = ∃ y ys, xs = y :: ys ∧ TrL lim d y ∧ TrLs lim ds ys := by
        cases d <;> first | rfl | exact absurd ⟨_, rfl⟩ hd
      have e2 : tyDs f fs (d :: ds) = match fs with
        | [] => false
        | fl :: fs => f fl.type d && tyDs f fs ds := by
        cases fs <;> cases d <;> first | rfl | exact absurd ⟨_, rfl⟩ hd
      rw [e1]
      rw [e2] at h
      cases fs with
      | nil => cases h
      | cons fl fs =>
        cases xs with
        | nil => simp at hl
        | cons y ys =>
          simp only [Bool.and_eq_true] at h
          exact ⟨y, ys, rfl, ih _ _ _ h.1 (hx 0 fl y rfl rfl), tyDs_sound ih h.2 (by simpa using hl) (fun i f' y' h1 h2 => hx (i + 1) f' y' (by simpa using h1) (by simpa using h2))⟩
theorem tyD_sound {P : Program} {lim : Nat → Nat → Prop} (hm : ∀ n b b', b' ≤ b → lim n b → lim n b') : ∀ {n : Nat} {t : TypeId} {d : TyD} {x : Tr}, tyD P n t d = true → TrTy P lim n t x → TrL lim d x
  | 0, t, d, x, h, _ => by simp [tyD] at h
  | n + 1, t, d, x, h, hx => by
    unfold tyD at h
    unfold TrTy at hx
    split at h
    · rename_i hu; simp only [hu] at hx; simpa only [TrL] using hx
    · rename_i hu; simp only [hu] at hx; obtain rfl := kindEq_eq h; simpa only [TrL] using hx
    · rename_i hu; simp only [hu] at hx; simpa only [TrL] using hx
    · rename_i hu
      simp only [hu] at hx
      simp only [Bool.and_eq_true] at h
      obtain ⟨full, xs, rfl, h1, h2, h3⟩ := hx
      simp only [TrL]
      exact ⟨full, xs, by rw [beq_eq h.1.1], h1, hm _ _ _ (Nat.le_of_ble_eq_true h.1.2) h2, fun y hy => tyD_sound hm h.2 (h3 y hy)⟩
    · rename_i hu
      simp only [hu] at hx
      obtain ⟨xs, rfl, h1, h2⟩ := hx
      simp only [TrL]
      exact ⟨xs, rfl, tyDs_sound (fun t d x => tyD_sound hm) h h1 h2⟩
    · rename_i hu
      simp only [hu] at hx
      simp only [Bool.and_eq_true] at h
      obtain ⟨xs, rfl, h1, h2⟩ := hx
      simp only [TrL]
      obtain rfl := beq_eq h.1
      exact ⟨xs, rfl, h1, fun y hy => tyD_sound hm h.2 (h2 y hy)⟩
    · cases h
def limG {K : Type} (P : Program) (t : TypeId) (d : DataW K) : Prop := ∀ w ∈ d.weights P t, w ≤ reachBytes
theorem reach_num : reachBytes = 140737488351232 := by decide
theorem all_mem {K : Type} {P : Program} {e : TypeId} : ∀ {ds : List (DataW K)} {d : DataW K}, d ∈ ds → ∀ w ∈ d.weights P e, w ∈ DataW.weightsAll P e ds
  | x :: r, d, h, w, hw => by
    simp only [DataW.weightsAll, List.mem_append]
    rcases List.mem_cons.1 h with rfl | h
    · exact .inl hw
    · exact .inr (all_mem h w hw)
theorem limG_ok {K : Type} (P : Program) : Lim (K := K) P limS (limG P) where
  str t bs h := by have := h bs.length (by simp [DataW.weights]); rw [reach_num] at this; unfold limS; omega
  nil b := by unfold limS; omega
  sl t e es sp hu h := by
    constructor
    · have := h ((es.length + sp.length) * P.bytesOf e) (by simp [DataW.weights, hu])
      rw [reach_num] at this
      exact Nat.le_trans (Nat.mul_le_mul_right _ (by omega)) this
    · intro d hd w hw
      exact h w (by simp only [DataW.weights, hu, List.mem_cons, List.mem_append]; exact .inr (.inl (all_mem hd w hw)))
  st t fs ps hu h i f d hf hd w hw := h w (by simp only [DataW.weights, hu]; exact DataW.weights_mem_each (t := f.type) (by rw [List.getElem?_map, hf]; rfl) hd w hw)
  arr t m e ps hu h d hd w hw := h w (by simp only [DataW.weights, hu]; exact all_mem hd w hw)
theorem limS_mono (n b b' : Nat) (h : b' ≤ b) (hl : limS n b) : limS n b' := Nat.le_trans (Nat.mul_le_mul_left _ h) hl
theorem limG_each {K : Type} {P : Program} {ts : List TypeId} {ds : List (DataW K)} (h : (DataW.weightsEach P ts ds).all (· ≤ reachBytes) = true) {j : Nat} {t : TypeId} {d : DataW K} (ht : ts[j]? = some t) (hd : ds[j]? = some d) : limG P t d := by
  intro w hw
  have := List.all_eq_true.1 h w (DataW.weights_mem_each ht hd w hw)
  simpa using this

/-- An argument, as a row reads it, is data of its form. -/
theorem argL {K : Type} {enc : TypeId × Value → K} {P : Program} {lim : Nat → Nat → Prop} {G : TypeId → DataW K → Prop} (HG : Lim P lim G) (hm : ∀ n b b', b' ≤ b → lim n b → lim n b') {W : World} {base n : Nat} {sp : Nat → Bool} {held : Bool} {t : TypeId} {v : Value} {d : DataW K} {ps : List MemPlace} (D : TyD) (ht : tyT P n t = true) (hD : tyD P n t D = true) (hc : (!flatT P t || Nat.beq (P.cellsOf t) 1) = true)
    (hok : Value.okWide P W .any base t v) (hd : DataW.Trod enc P W 0 sp held t v d ps) (hg : G t d) : ∃ x, AV.val (env0 W) (.t x) v ∧ TrL lim D x := by
  obtain ⟨x, h1, h2⟩ := arg_val HG ht hok hd hg (fun h => by rw [h] at hc; exact beq_eq (by simpa using hc))
  exact ⟨x, h1, tyD_sound hm hD h2⟩
theorem argD {K : Type} {enc : TypeId × Value → K} {P : Program} {W : World} {base n : Nat} {sp : Nat → Bool} {held : Bool} {t : TypeId} {v : Value} {d : DataW K} {ps : List MemPlace} (D : TyD) (ht : tyT P n t = true) (hD : tyD P n t D = true) (hc : (!flatT P t || Nat.beq (P.cellsOf t) 1) = true)
    (hok : Value.okWide P W .any base t v) (hd : DataW.Trod enc P W 0 sp held t v d ps) (hg : limG P t d) : ∃ x, AV.val (env0 W) (.t x) v ∧ TrD D x :=
  argL (limG_ok P) limS_mono D ht hD hc hok hd hg
theorem wf_u8 {n : Int} (h : (Lit.int .u8 n).wf = true) : 0 ≤ n ∧ n ≤ 255 := by
  simp only [Lit.wf, Bool.and_eq_true, decide_eq_true_eq] at h
  have h1 : IntKind.min .u8 = 0 := by decide
  have h2 : IntKind.max .u8 = 255 := by decide
  omega
theorem wf_u16 {n : Int} (h : (Lit.int .u16 n).wf = true) : 0 ≤ n ∧ n ≤ 65535 := by
  simp only [Lit.wf, Bool.and_eq_true, decide_eq_true_eq] at h
  have h1 : IntKind.min .u16 = 0 := by decide
  have h2 : IntKind.max .u16 = 65535 := by decide
  omega
theorem wf_u32 {n : Int} (h : (Lit.int .u32 n).wf = true) : 0 ≤ n ∧ n ≤ 4294967295 := by
  simp only [Lit.wf, Bool.and_eq_true, decide_eq_true_eq] at h
  have h1 : IntKind.min .u32 = 0 := by decide
  have h2 : IntKind.max .u32 = 4294967295 := by decide
  omega
theorem wf_u64 {n : Int} (h : (Lit.int .u64 n).wf = true) : 0 ≤ n ∧ n ≤ 18446744073709551615 := by
  simp only [Lit.wf, Bool.and_eq_true, decide_eq_true_eq] at h
  have h1 : IntKind.min .u64 = 0 := by decide
  have h2 : IntKind.max .u64 = 18446744073709551615 := by decide
  omega
theorem wf_i16 {n : Int} (h : (Lit.int .i16 n).wf = true) : -32768 ≤ n ∧ n ≤ 32767 := by
  simp only [Lit.wf, Bool.and_eq_true, decide_eq_true_eq] at h
  have h1 : IntKind.min .i16 = -32768 := by decide
  have h2 : IntKind.max .i16 = 32767 := by decide
  omega
theorem wf_i32 {n : Int} (h : (Lit.int .i32 n).wf = true) : -2147483648 ≤ n ∧ n ≤ 2147483647 := by
  simp only [Lit.wf, Bool.and_eq_true, decide_eq_true_eq] at h
  have h1 : IntKind.min .i32 = -2147483648 := by decide
  have h2 : IntKind.max .i32 = 2147483647 := by decide
  omega
theorem wf_i64 {n : Int} (h : (Lit.int .i64 n).wf = true) : -9223372036854775808 ≤ n ∧ n ≤ 9223372036854775807 := by
  simp only [Lit.wf, Bool.and_eq_true, decide_eq_true_eq] at h
  have h1 : IntKind.min .i64 = -9223372036854775808 := by decide
  have h2 : IntKind.max .i64 = 9223372036854775807 := by decide
  omega
theorem trd_get {D : TyD} {xs : List Tr} (h : ∀ y ∈ xs, TrD D y) {i : Nat} (hi : i < xs.length) : ∃ y, xs[i]? = some y ∧ TrD D y :=
  ⟨xs[i], List.getElem?_eq_getElem hi, h _ (List.getElem_mem hi)⟩
theorem u8_get {xs : List Tr} (h : ∀ y ∈ xs, TrD (.int .u8) y) {i : Nat} (hi : i < xs.length) : ∃ v, xs[i]? = some (.int .u8 v) ∧ 0 ≤ v ∧ v ≤ 255 := by
  obtain ⟨y, h1, v, rfl, h2⟩ := trd_get h hi
  exact ⟨v, h1, wf_u8 h2⟩
theorem i64_get {xs : List Tr} (h : ∀ y ∈ xs, TrD (.int .i64) y) {i : Nat} (hi : i < xs.length) : ∃ v, xs[i]? = some (.int .i64 v) ∧ -9223372036854775808 ≤ v ∧ v ≤ 9223372036854775807 := by
  obtain ⟨y, h1, v, rfl, h2⟩ := trd_get h hi
  exact ⟨v, h1, wf_i64 h2⟩
end Stk
end
