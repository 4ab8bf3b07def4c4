/- The framework, part 2: what abstract values, objects and heaps say of the machine's memory; plain laws on them. -/
import Derived.Test.YthkbahbbdacgeaaDoorFw1
import Derived.Calls
import Derived.Laws.Cells
import Derived.Laws.IdiomCopy
import Derived.Laws.World
set_option linter.unusedSimpArgs false
namespace Stk
open Go
theorem Tr.szs_nil : Tr.szs [] = 0 := rfl
theorem Tr.szs_cons (x : Tr) (xs : List Tr) : Tr.szs (x :: xs) = x.sz + Tr.szs xs := Nat.add_comm _ _
theorem AV.szs_nil : AV.szs [] = 0 := rfl
theorem AV.szs_cons (x : AV) (xs : List AV) : AV.szs (x :: xs) = x.sz + AV.szs xs := Nat.add_comm _ _
theorem Sh.szs_nil : Sh.szs [] = 0 := rfl
theorem Sh.szs_cons (x : Sh) (xs : List Sh) : Sh.szs (x :: xs) = x.sz + Sh.szs xs := Nat.add_comm _ _

theorem none_of {α : Type} {x : Option α} (h : ∀ y, x ≠ some y) : x = none := by cases x with
  | none => rfl
  | some y => exact absurd rfl (h y)

/-! ### Parts of a memory -/
def Sub (mem : List Value) (o : Nat) (mid : List Value) : Prop := ∃ pre post, mem = pre ++ (mid ++ post) ∧ pre.length = o

theorem Sub.refl (mem : List Value) : Sub mem 0 mem := ⟨[], [], by simp, rfl⟩
theorem Sub.trans {mem mid m2 : List Value} {o o' : Nat} (h : Sub mem o mid) (h' : Sub mid o' m2) : Sub mem (o + o') m2 := by
  obtain ⟨p, q, rfl, rfl⟩ := h
  obtain ⟨p', q', rfl, rfl⟩ := h'
  exact ⟨p ++ p', q' ++ q, by simp, by simp⟩
theorem Sub.get {mem mid : List Value} {o j : Nat} {v : Value} (h : Sub mem o mid) (hj : mid[j]? = some v) : mem[o + j]? = some v := by
  obtain ⟨p, q, rfl, rfl⟩ := h
  have hlt : j < mid.length := by
    rcases Nat.lt_or_ge j mid.length with h | h
    · exact h
    · simp [List.getElem?_eq_none h] at hj
  rw [List.getElem?_append_right (by omega), Nat.add_sub_cancel_left, List.getElem?_append_left hlt]; exact hj
theorem Sub.len {mem mid : List Value} {o : Nat} (h : Sub mem o mid) : o + mid.length ≤ mem.length := by
  obtain ⟨p, q, rfl, rfl⟩ := h; simp
theorem Sub.eq {mem mid : List Value} {o : Nat} (h : Sub mem o mid) : (mem.drop o).take mid.length = mid := by
  obtain ⟨p, q, rfl, rfl⟩ := h; simp
theorem Sub.over {mem mid mid' : List Value} {o : Nat} (h : Sub mem o mid) : ∃ pre post, mem = pre ++ (mid ++ post) ∧ pre.length = o ∧ (mid'.length = mid.length → over mem o mid' = pre ++ (mid' ++ post)) := by
  obtain ⟨p, q, rfl, rfl⟩ := h
  refine ⟨p, q, rfl, rfl, fun e => ?_⟩
  simp [Stk.over, e]
theorem over_length {α : Type} (xs : List α) (o : Nat) (ys : List α) (h : o + ys.length ≤ xs.length) : (over xs o ys).length = xs.length := by
  simp [over]; omega

/-! ### Data -/
mutual
def Tr.rel (m : Nat → Option (List Value)) : Tr → List Value → Prop
  | .bool b, cs => cs = [.bool b]
  | .int k n, cs => cs = [.int k n]
  | .str s, cs => cs = [.string s]
  | .nilp, cs => cs = [.pointer none]
  | .nilm, cs => cs = [.map none]
  | .nilf, cs => cs = [.nilFunc]
  | .nili, cs => cs = [.nilIface]
  | .agg xs, cs => Tr.rels m xs cs
  | .arr n xs, cs => xs.length = n ∧ Tr.ones m xs cs
  | .sl full esz xs, cs => ∃ base cap, cs = [.slice base xs.length cap] ∧ (full = true → cap = xs.length) ∧ xs.length ≤ cap ∧
      (xs = [] ∨ ∃ a mem mid, base = some a ∧ a.spot = none ∧ m a.block = some mem ∧ Sub mem a.off mid ∧ Tr.row m esz xs mid)
def Tr.rels (m : Nat → Option (List Value)) : List Tr → List Value → Prop
  | [], cs => cs = []
  | x :: xs, cs => ∃ a b, cs = a ++ b ∧ Tr.rel m x a ∧ Tr.rels m xs b
def Tr.ones (m : Nat → Option (List Value)) : List Tr → List Value → Prop
  | [], cs => cs = []
  | x :: xs, cs => ∃ c b, cs = c :: b ∧ x.isAgg = false ∧ Tr.rel m x [c] ∧ Tr.ones m xs b
def Tr.row (m : Nat → Option (List Value)) (esz : Nat) : List Tr → List Value → Prop
  | [], cs => cs = []
  | x :: xs, cs => ∃ a b, cs = a ++ b ∧ a.length = esz ∧ Tr.rel m x a ∧ Tr.row m esz xs b
end

theorem Tr.ones_length {m : Nat → Option (List Value)} : ∀ {xs : List Tr} {cs : List Value}, Tr.ones m xs cs → cs.length = xs.length
  | [], cs, h => by simp only [Tr.ones] at h; simp [h]
  | x :: xs, cs, h => by
    simp only [Tr.ones] at h
    obtain ⟨c, b, rfl, _, _, h⟩ := h
    simp [Tr.ones_length h]
theorem Tr.row_length {m : Nat → Option (List Value)} {esz : Nat} : ∀ {xs : List Tr} {cs : List Value}, Tr.row m esz xs cs → cs.length = xs.length * esz
  | [], cs, h => by simp only [Tr.row] at h; simp [h]
  | x :: xs, cs, h => by
    simp only [Tr.row] at h
    obtain ⟨a, b, rfl, ha, _, h⟩ := h
    simp [Tr.row_length h, ha, Nat.succ_mul]; omega

mutual
theorem Tr.rel_length {m : Nat → Option (List Value)} : ∀ {x : Tr} {cs : List Value}, Tr.rel m x cs → cs.length = x.sz
  | .bool _, cs, h => by simp only [Tr.rel] at h; simp [h, Tr.sz]
  | .int _ _, cs, h => by simp only [Tr.rel] at h; simp [h, Tr.sz]
  | .str _, cs, h => by simp only [Tr.rel] at h; simp [h, Tr.sz]
  | .nilp, cs, h => by simp only [Tr.rel] at h; simp [h, Tr.sz]
  | .nilm, cs, h => by simp only [Tr.rel] at h; simp [h, Tr.sz]
  | .nilf, cs, h => by simp only [Tr.rel] at h; simp [h, Tr.sz]
  | .nili, cs, h => by simp only [Tr.rel] at h; simp [h, Tr.sz]
  | .agg xs, cs, h => by simp only [Tr.rel] at h; simp [Tr.sz, Tr.rels_length h]
  | .arr n xs, cs, h => by simp only [Tr.rel] at h; simp [Tr.sz, Tr.ones_length h.2, h.1]
  | .sl _ _ _, cs, h => by simp only [Tr.rel] at h; obtain ⟨_, _, rfl, _⟩ := h; simp [Tr.sz]
theorem Tr.rels_length {m : Nat → Option (List Value)} : ∀ {xs : List Tr} {cs : List Value}, Tr.rels m xs cs → cs.length = Tr.szs xs
  | [], cs, h => by simp only [Tr.rels] at h; simp [h, Tr.szs_nil, Tr.szs_cons]
  | x :: xs, cs, h => by
    simp only [Tr.rels] at h
    obtain ⟨a, b, rfl, ha, hb⟩ := h
    simp [Tr.szs_nil, Tr.szs_cons, Tr.rel_length ha, Tr.rels_length hb]
end

def MemLe (m m' : Nat → Option (List Value)) : Prop := ∀ k mem, m k = some mem → m' k = some mem
theorem MemLe.refl (m : Nat → Option (List Value)) : MemLe m m := fun _ _ h => h
theorem MemLe.trans {a b c : Nat → Option (List Value)} (h : MemLe a b) (h' : MemLe b c) : MemLe a c := fun k mem hk => h' k mem (h k mem hk)

mutual
theorem Tr.rel_mono {m m' : Nat → Option (List Value)} (hm : MemLe m m') : ∀ {x : Tr} {cs : List Value}, Tr.rel m x cs → Tr.rel m' x cs
  | .bool _, _, h => h
  | .int _ _, _, h => h
  | .str _, _, h => h
  | .nilp, _, h => h
  | .nilm, _, h => h
  | .nilf, _, h => h
  | .nili, _, h => h
  | .agg xs, cs, h => by simp only [Tr.rel] at h ⊢; exact Tr.rels_mono hm h
  | .arr n xs, cs, h => by simp only [Tr.rel] at h ⊢; exact ⟨h.1, Tr.ones_mono hm h.2⟩
  | .sl _ _ xs, cs, h => by
    simp only [Tr.rel] at h ⊢
    obtain ⟨base, cap, h1, h2, h3, h4⟩ := h
    refine ⟨base, cap, h1, h2, h3, h4.imp id ?_⟩
    rintro ⟨a, mem, mid, ha, hs, hmem, hsub, hr⟩
    exact ⟨a, mem, mid, ha, hs, hm _ _ hmem, hsub, Tr.row_mono hm hr⟩
theorem Tr.rels_mono {m m' : Nat → Option (List Value)} (hm : MemLe m m') : ∀ {xs : List Tr} {cs : List Value}, Tr.rels m xs cs → Tr.rels m' xs cs
  | [], _, h => h
  | x :: xs, cs, h => by
    simp only [Tr.rels] at h ⊢
    obtain ⟨a, b, h1, h2, h3⟩ := h
    exact ⟨a, b, h1, Tr.rel_mono hm h2, Tr.rels_mono hm h3⟩
theorem Tr.ones_mono {m m' : Nat → Option (List Value)} (hm : MemLe m m') : ∀ {xs : List Tr} {cs : List Value}, Tr.ones m xs cs → Tr.ones m' xs cs
  | [], _, h => h
  | x :: xs, cs, h => by
    simp only [Tr.ones] at h ⊢
    obtain ⟨a, b, h1, h2, h3, h4⟩ := h
    exact ⟨a, b, h1, h2, Tr.rel_mono hm h3, Tr.ones_mono hm h4⟩
theorem Tr.row_mono {m m' : Nat → Option (List Value)} {esz : Nat} (hm : MemLe m m') : ∀ {xs : List Tr} {cs : List Value}, Tr.row m esz xs cs → Tr.row m' esz xs cs
  | [], _, h => h
  | x :: xs, cs, h => by
    simp only [Tr.row] at h ⊢
    obtain ⟨a, b, h1, h2, h3, h4⟩ := h
    exact ⟨a, b, h1, h2, Tr.rel_mono hm h3, Tr.row_mono hm h4⟩
end

/-- Each cell holds one cell's value. -/
def Ones (cs : List Value) : Prop := ∀ c ∈ cs, c.oneCell' = true
mutual
theorem Tr.rel_one {m : Nat → Option (List Value)} : ∀ {x : Tr} {cs : List Value}, Tr.rel m x cs → Ones cs
  | .bool _, cs, h => by simp only [Tr.rel] at h; simp [h, Ones, Value.oneCell']
  | .int _ _, cs, h => by simp only [Tr.rel] at h; simp [h, Ones, Value.oneCell']
  | .str _, cs, h => by simp only [Tr.rel] at h; simp [h, Ones, Value.oneCell']
  | .nilp, cs, h => by simp only [Tr.rel] at h; simp [h, Ones, Value.oneCell']
  | .nilm, cs, h => by simp only [Tr.rel] at h; simp [h, Ones, Value.oneCell']
  | .nilf, cs, h => by simp only [Tr.rel] at h; simp [h, Ones, Value.oneCell']
  | .nili, cs, h => by simp only [Tr.rel] at h; simp [h, Ones, Value.oneCell']
  | .agg xs, cs, h => by simp only [Tr.rel] at h; exact Tr.rels_one h
  | .arr n xs, cs, h => by simp only [Tr.rel] at h; exact Tr.ones_one h.2
  | .sl _ _ _, cs, h => by simp only [Tr.rel] at h; obtain ⟨_, _, rfl, _⟩ := h; simp [Ones, Value.oneCell']
theorem Tr.rels_one {m : Nat → Option (List Value)} : ∀ {xs : List Tr} {cs : List Value}, Tr.rels m xs cs → Ones cs
  | [], cs, h => by simp only [Tr.rels] at h; simp [h, Ones]
  | x :: xs, cs, h => by
    simp only [Tr.rels] at h
    obtain ⟨a, b, rfl, ha, hb⟩ := h
    intro c hc
    rcases List.mem_append.1 hc with hc | hc
    · exact Tr.rel_one ha c hc
    · exact Tr.rels_one hb c hc
theorem Tr.ones_one {m : Nat → Option (List Value)} : ∀ {xs : List Tr} {cs : List Value}, Tr.ones m xs cs → Ones cs
  | [], cs, h => by simp only [Tr.ones] at h; simp [h, Ones]
  | x :: xs, cs, h => by
    simp only [Tr.ones] at h
    obtain ⟨a, b, rfl, _, ha, hb⟩ := h
    intro c hc
    rcases List.mem_cons.1 hc with hc | hc
    · exact Tr.rel_one ha c (by simp [hc])
    · exact Tr.ones_one hb c hc
end
theorem Tr.row_one {m : Nat → Option (List Value)} {esz : Nat} : ∀ {xs : List Tr} {cs : List Value}, Tr.row m esz xs cs → Ones cs
  | [], cs, h => by simp only [Tr.row] at h; simp [h, Ones]
  | x :: xs, cs, h => by
    simp only [Tr.row] at h
    obtain ⟨a, b, rfl, _, ha, hb⟩ := h
    intro c hc
    rcases List.mem_append.1 hc with hc | hc
    · exact Tr.rel_one ha c hc
    · exact Tr.row_one hb c hc

/-! Rows: append, take, drop, one element. -/
theorem Tr.row_append {m : Nat → Option (List Value)} {esz : Nat} : ∀ {xs ys : List Tr} {a b : List Value}, Tr.row m esz xs a → Tr.row m esz ys b → Tr.row m esz (xs ++ ys) (a ++ b)
  | [], ys, a, b, h, h' => by simp only [Tr.row] at h; subst h; simpa using h'
  | x :: xs, ys, a, b, h, h' => by
    simp only [Tr.row] at h
    obtain ⟨c, d, rfl, h1, h2, h3⟩ := h
    simp only [List.cons_append, Tr.row]
    exact ⟨c, d ++ b, by simp, h1, h2, Tr.row_append h3 h'⟩
theorem Tr.row_split {m : Nat → Option (List Value)} {esz : Nat} : ∀ {xs ys : List Tr} {cs : List Value}, Tr.row m esz (xs ++ ys) cs → ∃ a b, cs = a ++ b ∧ Tr.row m esz xs a ∧ Tr.row m esz ys b
  | [], ys, cs, h => ⟨[], cs, rfl, rfl, h⟩
  | x :: xs, ys, cs, h => by
    simp only [List.cons_append, Tr.row] at h
    obtain ⟨c, d, rfl, h1, h2, h3⟩ := h
    obtain ⟨a, b, rfl, ha, hb⟩ := Tr.row_split h3
    exact ⟨c ++ a, b, by simp, by simp only [Tr.row]; exact ⟨c, a, rfl, h1, h2, ha⟩, hb⟩
/-- a stretch of a row -/
theorem Tr.row_cut {m : Nat → Option (List Value)} {esz : Nat} {xs : List Tr} {cs : List Value} (h : Tr.row m esz xs cs) (o n : Nat) :
    ∃ mid, Sub cs (min o xs.length * esz) mid ∧ Tr.row m esz ((xs.drop o).take n) mid := by
  have e : xs = xs.take o ++ ((xs.drop o).take n ++ (xs.drop o).drop n) := by rw [List.take_append_drop, List.take_append_drop]
  rw [e] at h
  obtain ⟨a, b, rfl, ha, hb⟩ := Tr.row_split h
  obtain ⟨c, d, rfl, hc, hd⟩ := Tr.row_split hb
  refine ⟨c, ⟨a, d, rfl, ?_⟩, hc⟩
  rw [Tr.row_length ha]; simp
theorem Tr.row_get {m : Nat → Option (List Value)} {esz : Nat} {xs : List Tr} {cs : List Value} (h : Tr.row m esz xs cs) {i : Nat} {x : Tr} (hi : xs[i]? = some x) :
    ∃ mid, Sub cs (i * esz) mid ∧ mid.length = esz ∧ Tr.rel m x mid := by
  have hlt : i < xs.length := by
    rcases Nat.lt_or_ge i xs.length with h | h
    · exact h
    · simp [List.getElem?_eq_none h] at hi
  obtain ⟨mid, hs, hr⟩ := Tr.row_cut h i 1
  have e : (xs.drop i).take 1 = [x] := by
    rw [List.drop_eq_getElem_cons hlt, List.take_succ_cons, List.take_zero]
    have := List.getElem?_eq_getElem hlt
    rw [hi] at this; simp at this; simp [this]
  rw [e] at hr
  simp only [Tr.row] at hr
  obtain ⟨a, b, rfl, h1, h2, rfl⟩ := hr
  rw [Nat.min_eq_left (by omega)] at hs
  exact ⟨a, by simpa using hs, h1, h2⟩
/-- a stretch of a row written over -/
theorem Tr.row_over {m : Nat → Option (List Value)} {esz : Nat} {xs ys : List Tr} {cs ds : List Value} (h : Tr.row m esz xs cs) (h' : Tr.row m esz ys ds) (o : Nat) (ho : o + ys.length ≤ xs.length) :
    Tr.row m esz (over xs o ys) (over cs (o * esz) ds) := by
  have e : xs = xs.take o ++ ((xs.drop o).take ys.length ++ (xs.drop o).drop ys.length) := by rw [List.take_append_drop, List.take_append_drop]
  rw [e] at h
  obtain ⟨a, b, rfl, ha, hb⟩ := Tr.row_split h
  obtain ⟨c, d, rfl, hc, hd⟩ := Tr.row_split hb
  have la := Tr.row_length ha
  have lc := Tr.row_length hc
  have ld := Tr.row_length h'
  have h1 : (xs.take o).length = o := by simp; omega
  have h2 : ((xs.drop o).take ys.length).length = ys.length := by simp; omega
  rw [h1] at la; rw [h2] at lc
  have e2 : over (a ++ (c ++ d)) (o * esz) ds = a ++ (ds ++ d) := by
    simp only [over]
    rw [List.take_append_of_le_length (by omega), List.take_of_length_le (by omega), ← List.append_assoc a c d, List.drop_append, List.drop_eq_nil_of_le (by simp; omega)]
    simp only [List.length_append, la, lc, ld, Nat.sub_self, List.drop_zero, List.nil_append, List.append_assoc]
  rw [e2]
  have e3 : over xs o ys = xs.take o ++ (ys ++ (xs.drop o).drop ys.length) := by simp [over]
  rw [e3]
  exact Tr.row_append ha (Tr.row_append h' hd)
theorem Tr.row_set {m : Nat → Option (List Value)} {esz : Nat} {xs : List Tr} {cs : List Value} (h : Tr.row m esz xs cs) {i : Nat} (hi : i < xs.length) {x : Tr} {ds : List Value} (hx : Tr.rel m x ds) (hd : ds.length = esz) :
    Tr.row m esz (xs.set i x) (over cs (i * esz) ds) := by
  have e : xs.set i x = over xs i [x] := by
    simp only [over, List.length_singleton]
    rw [List.set_eq_take_append_cons_drop, if_pos hi]; simp
  rw [e]
  exact Tr.row_over h (by simp only [Tr.row]; exact ⟨ds, [], by simp, hd, hx, rfl⟩) i (by simp; omega)
theorem Tr.row_mem {m : Nat → Option (List Value)} {esz : Nat} : ∀ {xs : List Tr} {cs : List Value}, Tr.row m esz xs cs → ∀ x ∈ xs, x.sz = esz
  | [], _, _, x, hx => by simp at hx
  | y :: ys, cs, h, x, hx => by
    simp only [Tr.row] at h
    obtain ⟨a, b, rfl, h1, h2, h3⟩ := h
    rcases List.mem_cons.1 hx with rfl | hx
    · rw [← Tr.rel_length h2, h1]
    · exact Tr.row_mem h3 x hx
/-- one-cell elements -/
theorem Tr.ones_get {m : Nat → Option (List Value)} : ∀ {xs : List Tr} {cs : List Value}, Tr.ones m xs cs → ∀ {i : Nat} {x : Tr}, xs[i]? = some x → ∃ c, cs[i]? = some c ∧ x.isAgg = false ∧ Tr.rel m x [c]
  | [], _, _, i, x, hi => by simp at hi
  | y :: ys, cs, h, i, x, hi => by
    simp only [Tr.ones] at h
    obtain ⟨c, b, rfl, h1, h2, h3⟩ := h
    cases i with
    | zero => simp at hi; subst hi; exact ⟨c, rfl, h1, h2⟩
    | succ i => simp at hi; obtain ⟨c', hc, r⟩ := Tr.ones_get h3 hi; exact ⟨c', by simpa using hc, r⟩
theorem Tr.ones_set {m : Nat → Option (List Value)} : ∀ {xs : List Tr} {cs : List Value}, Tr.ones m xs cs → ∀ {i : Nat} {x : Tr} {c : Value}, x.isAgg = false → Tr.rel m x [c] → Tr.ones m (xs.set i x) (cs.set i c)
  | [], _, h, i, x, c, _, _ => by simp only [Tr.ones] at h; subst h; simp [Tr.ones]
  | y :: ys, cs, h, i, x, c, h1, h2 => by
    simp only [Tr.ones] at h
    obtain ⟨c', b, rfl, h3, h4, h5⟩ := h
    cases i with
    | zero => simp only [List.set_cons_zero, Tr.ones]; exact ⟨c, b, rfl, h1, h2, h5⟩
    | succ i => simp only [List.set_cons_succ, Tr.ones]; exact ⟨c', b.set i c, rfl, h3, h4, Tr.ones_set h5 h1 h2⟩
theorem Tr.ones_row {m : Nat → Option (List Value)} : ∀ {xs : List Tr} {cs : List Value}, Tr.ones m xs cs → Tr.row m 1 xs cs
  | [], _, h => h
  | x :: xs, cs, h => by
    simp only [Tr.ones] at h
    obtain ⟨c, b, rfl, _, h2, h3⟩ := h
    simp only [Tr.row]
    exact ⟨[c], b, rfl, rfl, h2, Tr.ones_row h3⟩
theorem Tr.ones_append {m : Nat → Option (List Value)} : ∀ {xs ys : List Tr} {a b : List Value}, Tr.ones m xs a → Tr.ones m ys b → Tr.ones m (xs ++ ys) (a ++ b)
  | [], ys, a, b, h, h' => by simp only [Tr.ones] at h; subst h; simpa using h'
  | x :: xs, ys, a, b, h, h' => by
    simp only [Tr.ones] at h
    obtain ⟨c, d, rfl, h1, h2, h3⟩ := h
    simp only [List.cons_append, Tr.ones]
    exact ⟨c, d ++ b, by simp, h1, h2, Tr.ones_append h3 h'⟩
theorem Tr.ones_split {m : Nat → Option (List Value)} : ∀ {xs ys : List Tr} {cs : List Value}, Tr.ones m (xs ++ ys) cs → ∃ a b, cs = a ++ b ∧ Tr.ones m xs a ∧ Tr.ones m ys b
  | [], ys, cs, h => ⟨[], cs, rfl, rfl, h⟩
  | x :: xs, ys, cs, h => by
    simp only [List.cons_append, Tr.ones] at h
    obtain ⟨c, d, rfl, h1, h2, h3⟩ := h
    obtain ⟨a, b, rfl, ha, hb⟩ := Tr.ones_split h3
    exact ⟨c :: a, b, by simp, by simp only [Tr.ones]; exact ⟨c, a, rfl, h1, h2, ha⟩, hb⟩

/-! ### Values with names -/
inductive Bind where
  | no
  | virt
  | at (blk esz cap : Nat) (n : Option Nat)
structure Env where
  β : Nat → Bind
  ro : Nat → Option (List Value)
  bo : Nat → Option (List Value)

def Env.holds (e : Env) (k : Nat) (mem : List Value) : Prop := e.ro k = some mem ∨ e.bo k = some mem

def slRel (e : Env) (b o : Nat) (p : List Nat) (off len : Nat) (cap : Option Nat) (cs : List Value) : Prop :=
  (e.β b = .virt ∧ o = 0 ∧ p = [] ∧ off = 0 ∧ len = 0 ∧ cap.getD 0 = 0 ∧ ∃ base, cs = [.slice base 0 0]) ∨
  ∃ blk esz rc n base c, e.β b = .at blk esz rc n ∧ cs = [.slice base len c] ∧ len ≤ c ∧ (∀ n', n = some n' → off + len ≤ n' ∧ o = 0 ∧ off + cap.getD 0 ≤ n') ∧
    (match cap with
     | some k => c = k
     | none => o = 0 ∧ p = [] ∧ off ≤ rc ∧ c = rc - off) ∧
    (c = 0 ∨ base = some ⟨blk, o + off * esz, none⟩)

def AV.leaf (e : Env) : AV → List Value → Prop
  | .t x, cs => x.rel e.ro cs
  | .undef, cs => ∃ c, cs = [c] ∧ c.oneCell' = true
  | .ptr b i o _ ix, cs => ∃ blk esz rc n, e.β b = .at blk esz rc n ∧ cs = [.pointer (some ⟨blk, i * esz + o + ix.getD 0, none⟩)]
  | .sl b o p off len cap, cs => slRel e b o p off len cap cs
  | .bz esz xs, cs => ∃ base cap, cs = [.slice base xs.length cap] ∧ xs.length ≤ cap ∧
      (xs = [] ∨ ∃ a mem mid, base = some a ∧ a.spot = none ∧ e.holds a.block mem ∧ Sub mem a.off mid ∧ Tr.row e.ro esz xs mid)
  | .vp x, cs => ∃ a mem mid, cs = [.pointer (some a)] ∧ a.spot = none ∧ e.holds a.block mem ∧ Sub mem a.off mid ∧ x.rel e.ro mid
  | .mp b, cs => ∃ blk esz rc n, e.β b = .at blk esz rc n ∧ cs = [.map (some blk)]
  | _, _ => False

mutual
/-- as it lies in memory -/
def AV.rel (e : Env) : AV → List Value → Prop
  | .agg xs, cs => AV.rels e xs cs
  | .fn f xs ys, cs => ∃ vs ws, cs = [.func (.func f) vs ws] ∧ AV.vals e xs vs.toList ∧ AV.vals e ys ws.toList
  | .tup _, _ => False
  | .t x, cs => AV.leaf e (.t x) cs
  | .undef, cs => AV.leaf e .undef cs
  | .ptr b i o p ix, cs => AV.leaf e (.ptr b i o p ix) cs
  | .sl b o p off len cap, cs => AV.leaf e (.sl b o p off len cap) cs
  | .bz esz xs, cs => AV.leaf e (.bz esz xs) cs
  | .vp x, cs => AV.leaf e (.vp x) cs
  | .mp b, cs => AV.leaf e (.mp b) cs
def AV.rels (e : Env) : List AV → List Value → Prop
  | [], cs => cs = []
  | x :: xs, cs => ∃ a b, cs = a ++ b ∧ AV.rel e x a ∧ AV.rels e xs b
/-- as a value -/
def AV.val (e : Env) : AV → Value → Prop
  | .undef, _ => True
  | .tup xs, c => ∃ vs, c = .tuple vs ∧ AV.vals e xs vs.toList
  | .agg xs, c => ∃ cs, c = .agg cs ∧ AV.rels e xs cs.toList
  | .fn f xs ys, c => ∃ vs ws, c = .func (.func f) vs ws ∧ AV.vals e xs vs.toList ∧ AV.vals e ys ws.toList
  | .t x, c => match x.isAgg with
    | true => ∃ cs, c = .agg cs ∧ x.rel e.ro cs.toList
    | false => x.rel e.ro [c]
  | .ptr b i o p ix, c => AV.leaf e (.ptr b i o p ix) [c]
  | .sl b o p off len cap, c => AV.leaf e (.sl b o p off len cap) [c]
  | .bz esz xs, c => AV.leaf e (.bz esz xs) [c]
  | .vp x, c => AV.leaf e (.vp x) [c]
  | .mp b, c => AV.leaf e (.mp b) [c]
def AV.vals (e : Env) : List AV → List Value → Prop
  | [], cs => cs = []
  | x :: xs, cs => ∃ c b, cs = c :: b ∧ AV.val e x c ∧ AV.vals e xs b
end

theorem slRel_length {e : Env} {b o : Nat} {p : List Nat} {off len : Nat} {cap : Option Nat} {cs : List Value} (h : slRel e b o p off len cap cs) : cs.length = 1 ∧ Ones cs := by
  rcases h with ⟨_, _, _, _, _, _, base, rfl⟩ | ⟨_, _, _, _, base, c, _, rfl, _⟩ <;> simp [Ones, Value.oneCell']

theorem AV.leaf_length {e : Env} {v : AV} {cs : List Value} (h : AV.leaf e v cs) : cs.length = v.sz ∧ Ones cs := by
  cases v with
  | t x => simp only [AV.leaf] at h; exact ⟨by simp [AV.sz, Tr.rel_length h], Tr.rel_one h⟩
  | undef => simp only [AV.leaf] at h; obtain ⟨c, rfl, h⟩ := h; simp [AV.sz, Ones, h]
  | ptr b i o p ix => simp only [AV.leaf] at h; obtain ⟨_, _, _, _, _, rfl⟩ := h; simp [AV.sz, Ones, Value.oneCell']
  | sl b o p off len cap => simp only [AV.leaf] at h; have := slRel_length h; simpa [AV.sz] using this
  | bz esz xs => simp only [AV.leaf] at h; obtain ⟨_, _, rfl, _⟩ := h; simp [AV.sz, Ones, Value.oneCell']
  | vp x => simp only [AV.leaf] at h; obtain ⟨_, _, _, rfl, _⟩ := h; simp [AV.sz, Ones, Value.oneCell']
  | mp b => simp only [AV.leaf] at h; obtain ⟨_, _, _, _, _, rfl⟩ := h; simp [AV.sz, Ones, Value.oneCell']
  | agg xs => simp [AV.leaf] at h
  | tup xs => simp [AV.leaf] at h
  | fn f xs ys => simp [AV.leaf] at h

mutual
theorem AV.rel_length {e : Env} : ∀ {v : AV} {cs : List Value}, AV.rel e v cs → cs.length = v.sz ∧ Ones cs
  | .agg xs, cs, h => by simp only [AV.rel] at h; simpa [AV.sz] using AV.rels_length h
  | .fn f xs ys, cs, h => by simp only [AV.rel] at h; obtain ⟨_, _, rfl, _⟩ := h; simp [AV.sz, Ones, Value.oneCell']
  | .tup _, cs, h => by simp [AV.rel] at h
  | .t x, cs, h => by simp only [AV.rel] at h; exact AV.leaf_length h
  | .undef, cs, h => by simp only [AV.rel] at h; exact AV.leaf_length h
  | .ptr _ _ _ _ _, cs, h => by simp only [AV.rel] at h; exact AV.leaf_length h
  | .sl _ _ _ _ _ _, cs, h => by simp only [AV.rel] at h; exact AV.leaf_length h
  | .bz _ _, cs, h => by simp only [AV.rel] at h; exact AV.leaf_length h
  | .vp _, cs, h => by simp only [AV.rel] at h; exact AV.leaf_length h
  | .mp _, cs, h => by simp only [AV.rel] at h; exact AV.leaf_length h
theorem AV.rels_length {e : Env} : ∀ {xs : List AV} {cs : List Value}, AV.rels e xs cs → cs.length = AV.szs xs ∧ Ones cs
  | [], cs, h => by simp only [AV.rels] at h; simp [h, AV.szs_nil, AV.szs_cons, Ones]
  | x :: xs, cs, h => by
    simp only [AV.rels] at h
    obtain ⟨a, b, rfl, ha, hb⟩ := h
    have h1 := AV.rel_length ha
    have h2 := AV.rels_length hb
    refine ⟨by simp [AV.szs_nil, AV.szs_cons, h1.1, h2.1], fun c hc => ?_⟩
    rcases List.mem_append.1 hc with hc | hc
    · exact h1.2 c hc
    · exact h2.2 c hc
end

/-- What a later environment keeps: the names below n. -/
structure Env.Le (n : Nat) (e e' : Env) : Prop where
  β : ∀ b, b < n → e'.β b = e.β b
  ro : MemLe e.ro e'.ro
  bo : e'.bo = e.bo
theorem Env.Le.refl (n : Nat) (e : Env) : Env.Le n e e := ⟨fun _ _ => rfl, MemLe.refl _, rfl⟩
theorem Env.Le.trans {n n' : Nat} {a b c : Env} (h : Env.Le n a b) (h' : Env.Le n' b c) (hn : n ≤ n') : Env.Le n a c :=
  ⟨fun k hk => (h'.β k (by omega)).trans (h.β k hk), h.ro.trans h'.ro, h'.bo.trans h.bo⟩

/-- The relation between environments under which values are carried over. -/
structure Env.To (f : Nat → Nat) (e e' : Env) : Prop where
  β : ∀ b, e.β b ≠ .no → e'.β (f b) = e.β b
  ro : MemLe e.ro e'.ro
  hold : ∀ k mem, e.holds k mem → e'.holds k mem

theorem Env.Le.to {n : Nat} {e e' : Env} (h : Env.Le n e e') (hd : ∀ b, e.β b ≠ .no → b < n) : Env.To id e e' :=
  ⟨fun b hb => h.β b (hd b hb), h.ro, fun k mem hk => by
    rcases hk with hk | hk
    · exact .inl (h.ro _ _ hk)
    · exact .inr (by rw [h.bo]; exact hk)⟩

theorem slRel_to {e e' : Env} {b b' o : Nat} {p : List Nat} {off len : Nat} {cap : Option Nat} {cs : List Value}
    (hb : e.β b ≠ .no → e'.β b' = e.β b) (h : slRel e b o p off len cap cs) : slRel e' b' o p off len cap cs := by
  rcases h with ⟨hv, r⟩ | ⟨blk, esz, rc, n, base, c, hv, r⟩
  · exact .inl ⟨by rw [hb (by simp [hv]), hv], r⟩
  · exact .inr ⟨blk, esz, rc, n, base, c, by rw [hb (by simp [hv]), hv], r⟩

theorem AV.leaf_to {e e' : Env} (h : Env.To id e e') {v : AV} {cs : List Value} (hv : AV.leaf e v cs) : AV.leaf e' v cs := by
  cases v with
  | t x => exact Tr.rel_mono h.ro hv
  | undef => exact hv
  | ptr b i o p ix =>
    obtain ⟨blk, esz, rc, n, hb, hc⟩ := hv
    exact ⟨blk, esz, rc, n, by rw [show e'.β b = e.β b from h.β b (by simp [hb]), hb], hc⟩
  | sl b o p off len cap => exact slRel_to (h.β b) hv
  | bz esz xs =>
    obtain ⟨base, cap, h1, h2, h3⟩ := hv
    refine ⟨base, cap, h1, h2, h3.imp _root_.id ?_⟩
    rintro ⟨a, mem, mid, ha, hs, hm, hsub, hr⟩
    exact ⟨a, mem, mid, ha, hs, h.hold _ _ hm, hsub, Tr.row_mono h.ro hr⟩
  | vp x =>
    obtain ⟨a, mem, mid, ha, hs, hm, hsub, hr⟩ := hv
    exact ⟨a, mem, mid, ha, hs, h.hold _ _ hm, hsub, Tr.rel_mono h.ro hr⟩
  | mp b =>
    obtain ⟨blk, esz, rc, n, hb, hc⟩ := hv
    exact ⟨blk, esz, rc, n, by rw [show e'.β b = e.β b from h.β b (by simp [hb]), hb], hc⟩
  | agg xs => exact hv.elim
  | tup xs => exact hv.elim
  | fn f xs ys => exact hv.elim

mutual
theorem AV.rel_to {e e' : Env} (h : Env.To id e e') : ∀ {v : AV} {cs : List Value}, AV.rel e v cs → AV.rel e' v cs
  | .agg xs, cs, hv => by simp only [AV.rel] at hv ⊢; exact AV.rels_to h hv
  | .fn f xs ys, cs, hv => by
    simp only [AV.rel] at hv ⊢
    obtain ⟨vs, ws, h1, h2, h3⟩ := hv
    exact ⟨vs, ws, h1, AV.vals_to h h2, AV.vals_to h h3⟩
  | .tup _, cs, hv => by simp [AV.rel] at hv
  | .t x, cs, hv => by simp only [AV.rel] at hv ⊢; exact AV.leaf_to h hv
  | .undef, cs, hv => by simp only [AV.rel] at hv ⊢; exact AV.leaf_to h hv
  | .ptr _ _ _ _ _, cs, hv => by simp only [AV.rel] at hv ⊢; exact AV.leaf_to h hv
  | .sl _ _ _ _ _ _, cs, hv => by simp only [AV.rel] at hv ⊢; exact AV.leaf_to h hv
  | .bz _ _, cs, hv => by simp only [AV.rel] at hv ⊢; exact AV.leaf_to h hv
  | .vp _, cs, hv => by simp only [AV.rel] at hv ⊢; exact AV.leaf_to h hv
  | .mp _, cs, hv => by simp only [AV.rel] at hv ⊢; exact AV.leaf_to h hv
theorem AV.rels_to {e e' : Env} (h : Env.To id e e') : ∀ {xs : List AV} {cs : List Value}, AV.rels e xs cs → AV.rels e' xs cs
  | [], _, hv => hv
  | x :: xs, cs, hv => by
    simp only [AV.rels] at hv ⊢
    obtain ⟨a, b, h1, h2, h3⟩ := hv
    exact ⟨a, b, h1, AV.rel_to h h2, AV.rels_to h h3⟩
theorem AV.val_to {e e' : Env} (h : Env.To id e e') : ∀ {v : AV} {c : Value}, AV.val e v c → AV.val e' v c
  | .undef, _, hv => by simp [AV.val]
  | .tup xs, c, hv => by
    simp only [AV.val] at hv ⊢
    obtain ⟨vs, h1, h2⟩ := hv
    exact ⟨vs, h1, AV.vals_to h h2⟩
  | .agg xs, c, hv => by
    simp only [AV.val] at hv ⊢
    obtain ⟨vs, h1, h2⟩ := hv
    exact ⟨vs, h1, AV.rels_to h h2⟩
  | .fn f xs ys, c, hv => by
    simp only [AV.val] at hv ⊢
    obtain ⟨vs, ws, h1, h2, h3⟩ := hv
    exact ⟨vs, ws, h1, AV.vals_to h h2, AV.vals_to h h3⟩
  | .t x, c, hv => by
    simp only [AV.val] at hv ⊢
    cases hx : x.isAgg with
    | true => rw [hx] at hv; obtain ⟨cs, h1, h2⟩ := hv; exact ⟨cs, h1, Tr.rel_mono h.ro h2⟩
    | false => rw [hx] at hv; exact Tr.rel_mono h.ro hv
  | .ptr _ _ _ _ _, c, hv => by simp only [AV.val] at hv ⊢; exact AV.leaf_to h hv
  | .sl _ _ _ _ _ _, c, hv => by simp only [AV.val] at hv ⊢; exact AV.leaf_to h hv
  | .bz _ _, c, hv => by simp only [AV.val] at hv ⊢; exact AV.leaf_to h hv
  | .vp _, c, hv => by simp only [AV.val] at hv ⊢; exact AV.leaf_to h hv
  | .mp _, c, hv => by simp only [AV.val] at hv ⊢; exact AV.leaf_to h hv
theorem AV.vals_to {e e' : Env} (h : Env.To id e e') : ∀ {xs : List AV} {cs : List Value}, AV.vals e xs cs → AV.vals e' xs cs
  | [], _, hv => hv
  | x :: xs, cs, hv => by
    simp only [AV.vals] at hv ⊢
    obtain ⟨a, b, h1, h2, h3⟩ := hv
    exact ⟨a, b, h1, AV.val_to h h2, AV.vals_to h h3⟩
end

/-- A value and its cells: the step between memory and slots. -/
theorem AV.val_of_rel {e : Env} {v : AV} {cs : List Value} (h : AV.rel e v cs) : (v.isAgg = true ∧ AV.val e v (.agg cs.toArray)) ∨ (v.isAgg = false ∧ ∃ c, cs = [c] ∧ AV.val e v c) := by
  have one {v : AV} (hv : v.sz = 1) (hl : AV.leaf e v cs) (hval : ∀ c, AV.leaf e v [c] → AV.val e v c) : ∃ c, cs = [c] ∧ AV.val e v c := by
    have := (AV.leaf_length hl).1
    rw [hv] at this
    match cs, this with
    | [c], _ => exact ⟨c, rfl, hval c hl⟩
  cases v with
  | t x =>
    simp only [AV.rel, AV.leaf] at h
    cases hx : x.isAgg with
    | true => exact .inl ⟨by simp [AV.isAgg, hx], by simp only [AV.val, hx]; exact ⟨_, rfl, by simpa using h⟩⟩
    | false =>
      refine .inr ⟨by simp [AV.isAgg, hx], ?_⟩
      have hsz : x.sz = 1 := by cases x <;> first | rfl | simp [Tr.isAgg] at hx
      have hl := Tr.rel_length h
      rw [hsz] at hl
      match cs, hl with
      | [c], _ => exact ⟨c, rfl, by simp only [AV.val, hx]; exact h⟩
  | agg xs => simp only [AV.rel] at h; exact .inl ⟨rfl, by simp only [AV.val]; exact ⟨_, rfl, by simpa using h⟩⟩
  | tup xs => simp [AV.rel] at h
  | fn f xs ys => simp only [AV.rel] at h; obtain ⟨vs, ws, rfl, h1, h2⟩ := h; exact .inr ⟨rfl, _, rfl, by simp only [AV.val]; exact ⟨vs, ws, rfl, h1, h2⟩⟩
  | undef => simp only [AV.rel, AV.leaf] at h; obtain ⟨c, rfl, _⟩ := h; exact .inr ⟨rfl, c, rfl, by simp [AV.val]⟩
  | ptr b i o p ix => simp only [AV.rel] at h; exact .inr ⟨rfl, one rfl h (fun c hc => by simp only [AV.val]; exact hc)⟩
  | sl b o p off len cap => simp only [AV.rel] at h; exact .inr ⟨rfl, one rfl h (fun c hc => by simp only [AV.val]; exact hc)⟩
  | bz esz xs => simp only [AV.rel] at h; exact .inr ⟨rfl, one rfl h (fun c hc => by simp only [AV.val]; exact hc)⟩
  | vp x => simp only [AV.rel] at h; exact .inr ⟨rfl, one rfl h (fun c hc => by simp only [AV.val]; exact hc)⟩
  | mp b => simp only [AV.rel] at h; exact .inr ⟨rfl, one rfl h (fun c hc => by simp only [AV.val]; exact hc)⟩

/-- The other way: of a value that is no undef and no tuple. -/
theorem AV.rel_of_val {e : Env} {v : AV} {c : Value} (h : AV.val e v c) (hu : v ≠ .undef) (ht : ∀ xs, v ≠ .tup xs) : AV.rel e v c.cells.toList := by
  have cells_one {c : Value} (hc : c.oneCell' = true) : c.cells.toList = [c] := by cases c <;> simp [Value.oneCell'] at hc <;> simp [Value.cells]
  have one {v : AV} (hl : AV.leaf e v [c]) : c.cells.toList = [c] := cells_one ((AV.leaf_length hl).2 c (by simp))
  cases v with
  | undef => exact absurd rfl hu
  | tup xs => exact absurd rfl (ht xs)
  | t x =>
    simp only [AV.val] at h
    simp only [AV.rel, AV.leaf]
    cases hx : x.isAgg with
    | true => rw [hx] at h; obtain ⟨cs, rfl, h⟩ := h; simpa [Value.cells] using h
    | false => rw [hx] at h; rw [cells_one (Tr.rel_one h c (by simp))]; exact h
  | agg xs => simp only [AV.val] at h; obtain ⟨cs, rfl, h⟩ := h; simpa [Value.cells, AV.rel] using h
  | fn f xs ys => simp only [AV.val] at h; obtain ⟨vs, ws, rfl, h1, h2⟩ := h; simp only [AV.rel]; exact ⟨vs, ws, by simp [Value.cells], h1, h2⟩
  | ptr b i o p ix => simp only [AV.val] at h; rw [one h]; simp only [AV.rel]; exact h
  | sl b o p off len cap => simp only [AV.val] at h; rw [one h]; simp only [AV.rel]; exact h
  | bz esz xs => simp only [AV.val] at h; rw [one h]; simp only [AV.rel]; exact h
  | vp x => simp only [AV.val] at h; rw [one h]; simp only [AV.rel]; exact h
  | mp b => simp only [AV.val] at h; rw [one h]; simp only [AV.rel]; exact h

/-- all data -/
theorem AV.rels_toAVs {e : Env} : ∀ {xs : List Tr} {cs : List Value}, AV.rels e (toAVs xs) cs ↔ Tr.rels e.ro xs cs
  | [], cs => by simp [toAVs, AV.rels, Tr.rels]
  | x :: xs, cs => by
    simp only [toAVs, AV.rels, Tr.rels, AV.rel, AV.leaf]
    constructor
    · rintro ⟨a, b, h1, h2, h3⟩; exact ⟨a, b, h1, h2, AV.rels_toAVs.1 h3⟩
    · rintro ⟨a, b, h1, h2, h3⟩; exact ⟨a, b, h1, h2, AV.rels_toAVs.2 h3⟩

/-! ### Objects and heaps -/
def NoFz (n : Nat) (fz : Nat × Nat) : Prop := fz.1 ≤ fz.2 ∧ ∀ i, i < n → ¬ (fz.1 ≤ i ∧ i < fz.2)

def mapRel (m : Nat → Option (List Value)) : List (Tr × Tr) → List MapEntry → Prop
  | [], es => es = []
  | (x, v) :: r, es => ∃ me es', es = me :: es' ∧ (match x.isAgg with
      | true => ∃ cs, me.key = .agg cs ∧ x.rel m cs.toList
      | false => x.rel m [me.key]) ∧ (match v.isAgg with
      | true => ∃ cs, me.val = .agg cs ∧ v.rel m cs.toList
      | false => v.rel m [me.val]) ∧ mapRel m r es'

def AO.rel (e : Env) (esz cap : Nat) (n : Option Nat) : AO → Obj → Prop
  | .var v, ob => n = none ∧ esz = 1 ∧ ∃ cs t fz, ob = .cells cs t fz ∧ AV.rel e v cs.toList ∧ NoFz cs.size fz
  | .row es xs, ob => es = esz ∧ n = some xs.length ∧ ∃ cs t fz, ob = .cells cs t fz ∧ NoFz cs.size fz ∧ cs.size = cap * esz ∧ xs.length ≤ cap ∧ Ones cs.toList ∧ ∃ mid post, cs.toList = mid ++ post ∧ Tr.row e.ro esz xs mid
  | .map es, ob => n = none ∧ ∃ ents clock, ob = .map ents clock ∧ mapRel e.ro es ents.toList
  | .gone, _ => True

def live (H : Hp) (b : Nat) : Prop := ∃ o, H[b]? = some o ∧ o ≠ .gone

/-- The globals that are read, as data. -/
abbrev Gl := List (Nat × Tr)

structure Rel (G : Gl) (e : Env) (H : Hp) (w : World) : Prop where
  obj : ∀ b o, H[b]? = some o → o ≠ .gone → ∀ blk esz cap n, e.β b = .at blk esz cap n → ∃ ob, w.heap[blk]? = some ob ∧ o.rel e esz cap n ob
  virt : ∀ b o, H[b]? = some o → o ≠ .gone → e.β b = .virt → ∃ esz, o = .row esz []
  bound : ∀ b, b < H.length → e.β b ≠ .no
  dom : ∀ b, e.β b ≠ .no → b < H.length
  inj : ∀ b b', live H b → live H b' → ∀ blk s c n s' c' n', e.β b = .at blk s c n → e.β b' = .at blk s' c' n' → b = b'
  sep : ∀ b, live H b → ∀ blk s c n, e.β b = .at blk s c n → e.ro blk = none ∧ e.bo blk = none
  mem : ∀ k m, e.holds k m → ∃ cs t fz, w.heap[k]? = some (.cells cs t fz) ∧ cs.toList = m
  gl : ∀ g x, (g, x) ∈ G → ∃ m, e.ro g = some m ∧ x.rel e.ro m

def Owns (e : Env) (H : Hp) (k : Nat) : Prop := ∃ b, live H b ∧ ∃ s c n, e.β b = .at k s c n

/-- What has become of the world. -/
structure WLe (keep : Nat → Prop) (w w' : World) : Prop where
  os : w'.os = w.os
  tape : w'.tape = w.tape
  output : w'.output = w.output
  size : w.heap.size ≤ w'.heap.size
  frame : ∀ k, k < w.heap.size → keep k → w'.heap[k]? = w.heap[k]?

theorem WLe.refl (keep : Nat → Prop) (w : World) : WLe keep w w := ⟨rfl, rfl, rfl, Nat.le_refl _, fun _ _ _ => rfl⟩
theorem WLe.trans {keep keep' : Nat → Prop} {a b c : World} (h : WLe keep a b) (h' : WLe keep' b c) (hk : ∀ k, k < a.heap.size → keep k → keep' k) : WLe keep a c :=
  ⟨h'.os.trans h.os, h'.tape.trans h.tape, h'.output.trans h.output, Nat.le_trans h.size h'.size,
    fun k hl hkk => (h'.frame k (Nat.lt_of_lt_of_le hl h.size) (hk k hl hkk)).trans (h.frame k hl hkk)⟩
theorem WLe.mono {keep keep' : Nat → Prop} {a b : World} (h : WLe keep a b) (hk : ∀ k, keep' k → keep k) : WLe keep' a b :=
  ⟨h.os, h.tape, h.output, h.size, fun k hl hkk => h.frame k hl (hk k hkk)⟩

/-- One step, or many, over the same names. -/
structure Step (G : Gl) (e : Env) (H : Hp) (w : World) (e' : Env) (H' : Hp) (w' : World) : Prop where
  rel : Rel G e' H' w'
  le : Env.Le H.length e e'
  len : H.length ≤ H'.length
  wle : WLe (fun k => ¬ Owns e H k) w w'
  own : ∀ k, Owns e' H' k → k < w.heap.size → Owns e H k
  frz : ∀ k m, e'.ro k = some m → k < w.heap.size → e.ro k = some m ∨ Owns e H k

theorem Step.refl {G : Gl} {e : Env} {H : Hp} {w : World} (h : Rel G e H w) : Step G e H w e H w :=
  ⟨h, Env.Le.refl _ _, Nat.le_refl _, WLe.refl _ _, fun _ h _ => h, fun _ _ h _ => .inl h⟩
theorem Step.trans {G : Gl} {e e' e'' : Env} {H H' H'' : Hp} {w w' w'' : World} (h : Step G e H w e' H' w') (h' : Step G e' H' w' e'' H'' w'') : Step G e H w e'' H'' w'' :=
  ⟨h'.rel, h.le.trans h'.le h.len, Nat.le_trans h.len h'.len,
    h.wle.trans h'.wle (fun k hk hn ho => hn (h.own k ho hk)),
    fun k hk hlt => h.own k (h'.own k hk (Nat.lt_of_lt_of_le hlt h.wle.size)) hlt,
    fun k m hk hlt => (h'.frz k m hk (Nat.lt_of_lt_of_le hlt h.wle.size)).elim (fun hk => h.frz k m hk hlt) (fun hk => .inr (h.own k hk hlt))⟩
theorem Step.to {G : Gl} {e e' : Env} {H H' : Hp} {w w' : World} (h : Step G e H w e' H' w') (hr : Rel G e H w) : Env.To id e e' := h.le.to hr.dom

/-! ### Frames -/
def Fr.at (fr : Fr) (t : Nat) : AV :=
  match fr with
  | [] => .undef
  | (n, v) :: r => match Nat.beq n t with
    | true => v
    | false => Fr.at r t

structure FrR (N : Nat) (e : Env) (fr : Fr) (a : Act) : Prop where
  size : a.tmps.size = N
  defers : a.defers = []
  slot : ∀ t, AV.val e (fr.at t) (a.tmps.getD t undef)

theorem FrR.to {N : Nat} {e e' : Env} {fr : Fr} {a : Act} (h : FrR N e fr a) (ht : Env.To id e e') : FrR N e' fr a :=
  ⟨h.size, h.defers, fun t => AV.val_to ht (h.slot t)⟩

end Stk
