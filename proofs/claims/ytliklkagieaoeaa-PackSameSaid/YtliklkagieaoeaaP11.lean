/- Messages as bytes: the program's form. -/
import Derived.Test.YtliklkagieaoeaaP10
namespace Stk
open Go
set_option maxRecDepth 100000
set_option linter.unusedSimpArgs false
set_option linter.unusedVariables false
set_option maxHeartbeats 4000000
abbrev Cm.t (c : Cm) (f : Bool) : Tr := .agg [u8 c.kind, i6 c.client, i6 c.seq, i6 c.node, i6 c.epoch, .bool c.yes, .arr 32 c.hash, .sl f 1 c.data]
abbrev En.t (x : En) (f : Bool) : Tr := .agg [i6 x.term, x.cmd.t f]
structure Ms where
  kind : Int
  ns : List Int
  yes : Bool
  code : Int
  hash : List Tr
  es : List (En × Bool)
  data : List Tr
abbrev eT (p : En × Bool) : Tr := p.1.t p.2
abbrev Ms.h (m : Ms) (i : Nat) : AV := ti (m.ns.getD i 0)
abbrev av15 (k : Int) (n0 n1 n2 n3 n4 n5 n6 n7 n8 : Int) (y : Bool) (code : Int) (hash : List Tr) (E D : AV) : AV :=
  .agg [.t (u8 k), ti n0, ti n1, ti n2, ti n3, ti n4, ti n5, ti n6, ti n7, ti n8, tb y, ti code, .t (.arr 32 hash), E, D]
structure Ms.OK (m : Ms) : Prop where
  k : 0 ≤ m.kind ∧ m.kind ≤ 255
  h : m.hash.length = 32
  hb : AllB m.hash
  db : AllB m.data
  dl : m.data.length ≤ 2 ^ 30
  e : ∀ p ∈ m.es, p.1.cmd.OK ∧ p.1.cmd.data.length ≤ 2 ^ 30
  el : m.es.length ≤ 2 ^ 30
  n : m.ns.length = 9
theorem nine {ns : List Int} (h : ns.length = 9) : ∃ a b c d e f g i j, ns = [a, b, c, d, e, f, g, i, j] := by
  match ns, h with
  | [a, b, c, d, e, f, g, i, j], _ => exact ⟨a, b, c, d, e, f, g, i, j, rfl⟩
abbrev Ms.av (m : Ms) : AV := av15 m.kind (m.ns.getD 0 0) (m.ns.getD 1 0) (m.ns.getD 2 0) (m.ns.getD 3 0) (m.ns.getD 4 0) (m.ns.getD 5 0) (m.ns.getD 6 0) (m.ns.getD 7 0) (m.ns.getD 8 0) m.yes m.code m.hash (.bz 40 (m.es.map eT)) (.bz 1 m.data)
def entriesB (es : List (En × Bool)) : List Tr := (es.map fun p => entryB p.1).flatten
theorem entriesB_append (a b : List (En × Bool)) : entriesB (a ++ b) = entriesB a ++ entriesB b := by simp [entriesB]
theorem entriesB_one (p : En × Bool) : entriesB [p] = entryB p.1 := by simp [entriesB]
def Ms.head (m : Ms) : List Tr := [u8 m.kind] ++ nums m.ns ++ mkB m.yes ++ num m.code ++ m.hash ++ leB 4 m.es.length
theorem Ms.head_len {m : Ms} (hm : m.OK) : m.head.length = 118 := by simp [Ms.head, nums_len, mkB, num_len, leB_len, hm.h, hm.n]
def msgB (m : Ms) : List Tr := m.head ++ entriesB m.es ++ (leB 4 m.data.length ++ m.data)
def elong (p : En × Bool) : Bool := decide ((p.1.cmd.data.length : Int) > 65536)
def Ms.bad (m : Ms) : Bool := decide ((m.es.length : Int) > 200) || m.es.any elong || decide ((m.data.length : Int) > 65536)
def putM (m : Ms) : List Tr × Int := if m.bad = true then ([], 3) else (msgB m, 0)
theorem entryB_len {x : En} (hx : x.cmd.OK) : (entryB x).length = 78 + x.cmd.data.length := by rw [entryB, List.length_append, num_len, cmdB_len _ hx]; omega
theorem entry_b (w : Wr) (x : En) : (w.entry x).b = w.b ++ entryB x := by simp [Wr.entry, Wr.cmd, Wr.put, Wr.data, entryB, cmdB]
theorem entry_long (w : Wr) (x : En) : (w.entry x).long = (w.long || decide ((x.cmd.data.length : Int) > 65536)) := rfl
structure MsSt (es : List (En × Bool)) (B0 : List Tr) where
  i : Nat
  W : Wr
  le : i ≤ es.length
  ok : W.long = false → W.b = B0 ++ entriesB (es.take i) ∧ es.length ≤ 200 ∧ (es.take i).any elong = false ∧ W.b.length ≤ 118 + i * 65614
  no : W.long = true → decide ((es.length : Int) > 200) = true ∨ es.any elong = true
  bl : W.b.length ≤ 2 ^ 32
theorem k_PutMsg (m : Ms) (hm : m.OK) : ACalls PP GG F.pack_PutMsg [m.av] [] (PutR (putM m)) := by
  have hhl := Ms.head_len hm
  obtain ⟨kind, ns, yes, code, hash, es, data⟩ := m
  obtain ⟨n0, n1, n2, n3, n4, n5, n6, n7, n8, hns⟩ := nine hm.n
  replace hns : ns = [n0, n1, n2, n3, n4, n5, n6, n7, n8] := hns
  subst hns
  have hk : 0 ≤ kind ∧ kind ≤ 255 := hm.k
  have hh : hash.length = 32 := hm.h
  have hdl : data.length ≤ 2 ^ 30 := hm.dl
  have hel : es.length ≤ 2 ^ 30 := hm.el
  have hes : ∀ p ∈ es, p.1.cmd.OK ∧ p.1.cmd.data.length ≤ 2 ^ 30 := hm.e
  show ACalls _ _ _ [av15 kind n0 n1 n2 n3 n4 n5 n6 n7 n8 yes code hash (.bz 40 (es.map eT)) (.bz 1 data)] [] _
  refine K.pack_PutMsg.callsC rfl ?_
  (conv => arg 3; whnf); repeat (first | ((with_reducible refine sat_brT ?_ ?_); rfl; conv => arg 3; whnf) | ((with_reducible refine sat_brF ?_ ?_); rfl; conv => arg 3; whnf) | ((with_reducible refine sat_eqv ?_ ?_); rfl; conv => arg 3; whnf))
  refine sat_rng (by rw [IntKind.wrap_u64]; omega) ?_
  (conv => arg 3; whnf); repeat (first | ((with_reducible refine sat_brT ?_ ?_); rfl; conv => arg 3; whnf) | ((with_reducible refine sat_brF ?_ ?_); rfl; conv => arg 3; whnf) | ((with_reducible refine sat_eqv ?_ ?_); rfl; conv => arg 3; whnf))
  rw [List.length_map]
  obtain ⟨lg, hlg⟩ : ∃ b, b = decide ((es.length : Int) > 200) := ⟨_, rfl⟩
  rw [← hlg]
  refine sat_call (k_fixed ⟨[], lg⟩ (by simp) kind (by omega) 1 (by omega)) ?_
  rintro r H' ⟨rfl, rfl⟩
  rw [kind_le hk]
  (conv => arg 3; whnf); repeat (first | ((with_reducible refine sat_brT ?_ ?_); rfl; conv => arg 3; whnf) | ((with_reducible refine sat_brF ?_ ?_); rfl; conv => arg 3; whnf) | ((with_reducible refine sat_eqv ?_ ?_); rfl; conv => arg 3; whnf))
  refine sat_call (k_numbers (Wr.put ⟨[], lg⟩ [u8 kind]) (by simp [Wr.put]) [n0, n1, n2, n3, n4, n5, n6, n7, n8] (by simp)) ?_
  rintro r H' ⟨rfl, rfl⟩
  (conv => arg 3; whnf); repeat (first | ((with_reducible refine sat_brT ?_ ?_); rfl; conv => arg 3; whnf) | ((with_reducible refine sat_brF ?_ ?_); rfl; conv => arg 3; whnf) | ((with_reducible refine sat_eqv ?_ ?_); rfl; conv => arg 3; whnf))
  refine sat_call (k_mark ((Wr.put ⟨[], lg⟩ [u8 kind]).put (nums [n0, n1, n2, n3, n4, n5, n6, n7, n8])) (by simp [Wr.put, nums_len]) yes) ?_
  rintro r H' ⟨rfl, rfl⟩
  (conv => arg 3; whnf); repeat (first | ((with_reducible refine sat_brT ?_ ?_); rfl; conv => arg 3; whnf) | ((with_reducible refine sat_brF ?_ ?_); rfl; conv => arg 3; whnf) | ((with_reducible refine sat_eqv ?_ ?_); rfl; conv => arg 3; whnf))
  refine sat_call (k_numbers (((Wr.put ⟨[], lg⟩ [u8 kind]).put (nums [n0, n1, n2, n3, n4, n5, n6, n7, n8])).put (mkB yes)) (by simp [Wr.put, nums_len, mkB]) [code] (by simp)) ?_
  rintro r H' ⟨rfl, rfl⟩
  rw [show nums [code] = num code by simp [nums]]
  have eh : List.take (32 - 0) (List.drop 0 hash) = hash := by rw [List.drop_zero, List.take_of_length_le (by omega)]
  obtain ⟨W, hW⟩ : ∃ W, W = ((((Wr.put ⟨[], lg⟩ [u8 kind]).put (nums [n0, n1, n2, n3, n4, n5, n6, n7, n8])).put (mkB yes)).put (num code)) := ⟨_, rfl⟩
  have hWl : W.b.length = 82 := by rw [hW]; simp [Wr.put, nums_len, mkB, num_len]
  have hWg : W.long = lg := by rw [hW]; rfl
  have hWb : W.b ++ hash ++ leB 4 es.length = Ms.head ⟨kind, [n0, n1, n2, n3, n4, n5, n6, n7, n8], yes, code, hash, es, data⟩ := by rw [hW]; simp [Wr.put, Ms.head]
  rw [← hW]
  clear hW
  (conv => arg 3; whnf); repeat (first | ((with_reducible refine sat_brT ?_ ?_); rfl; conv => arg 3; whnf) | ((with_reducible refine sat_brF ?_ ?_); rfl; conv => arg 3; whnf) | ((with_reducible refine sat_eqv ?_ ?_); rfl; conv => arg 3; whnf))
  refine sat_asrt (by simp; omega) ?_
  (conv => arg 3; whnf); repeat (first | ((with_reducible refine sat_brT ?_ ?_); rfl; conv => arg 3; whnf) | ((with_reducible refine sat_brF ?_ ?_); rfl; conv => arg 3; whnf) | ((with_reducible refine sat_eqv ?_ ?_); rfl; conv => arg 3; whnf))
  rw [eh]
  refine sat_asrt (by simp) ?_
  refine sat_asrt (by simp [roomy]; omega) ?_
  refine sat_brT (by simp) ?_
  (conv => arg 3; whnf); repeat (first | ((with_reducible refine sat_brT ?_ ?_); rfl; conv => arg 3; whnf) | ((with_reducible refine sat_brF ?_ ?_); rfl; conv => arg 3; whnf) | ((with_reducible refine sat_eqv ?_ ?_); rfl; conv => arg 3; whnf))
  refine sat_rng (by rw [IntKind.wrap_u64, List.length_map]; omega) ?_
  (conv => arg 3; whnf); repeat (first | ((with_reducible refine sat_brT ?_ ?_); rfl; conv => arg 3; whnf) | ((with_reducible refine sat_brF ?_ ?_); rfl; conv => arg 3; whnf) | ((with_reducible refine sat_eqv ?_ ?_); rfl; conv => arg 3; whnf))
  rw [List.length_map]
  refine sat_call (k_fixed (W.put hash) (by simp [Wr.put]; omega) (es.length : Int) (by omega) 4 (by omega)) ?_
  rintro r H' ⟨rfl, rfl⟩
  generalize hHd : Ms.head ⟨kind, [n0, n1, n2, n3, n4, n5, n6, n7, n8], yes, code, hash, es, data⟩ = B0 at *
  have hW2 : (W.put hash).put (leB 4 es.length) = ⟨B0, lg⟩ := by rw [← hWb, ← hWg]; simp [Wr.put]
  rw [hW2]
  (conv => arg 3; whnf); repeat (first | ((with_reducible refine sat_brT ?_ ?_); rfl; conv => arg 3; whnf) | ((with_reducible refine sat_brF ?_ ?_); rfl; conv => arg 3; whnf) | ((with_reducible refine sat_eqv ?_ ?_); rfl; conv => arg 3; whnf))
  refine sat_loopOf mkX_ops (σ := MsSt es B0) (fun x => [(1, pt 0), (4, pt 1), (5, ti x.i)]) (fun x => [.var (av15 kind n0 n1 n2 n3 n4 n5 n6 n7 n8 yes code hash (.bz 40 (es.map eT)) (.bz 1 data)), x.W.v 2, .row 1 x.W.b]) (fun x => es.length - x.i)
    (fun ex fr' H' => ∃ W : Wr, H' = [.var (av15 kind n0 n1 n2 n3 n4 n5 n6 n7 n8 yes code hash (.bz 40 (es.map eT)) (.bz 1 data)), W.v 2, .row 1 W.b] ∧ ex = .exit 0 ∧ fr' = [(1, pt 0), (4, pt 1)] ∧ W.b.length ≤ 2 ^ 32 ∧
      ((W.long = true ∧ (decide ((es.length : Int) > 200) = true ∨ es.any elong = true)) ∨ (W.long = false ∧ W.b = B0 ++ entriesB es ∧ decide ((es.length : Int) > 200) = false ∧ es.any elong = false)))
    ⟨0, ⟨B0, lg⟩, Nat.zero_le _, fun hl => ⟨by simp [entriesB], by have h0 : lg = false := hl; rw [hlg] at h0; have := of_decide_eq_false h0; omega, rfl, by show B0.length ≤ _; omega⟩, fun hl => .inl (by have h0 : lg = true := hl; rw [← hlg]; exact h0), by show B0.length ≤ _; omega⟩ ?_ ?_
  · rintro ⟨i, W, hi, hok, hno, hbl⟩
    dsimp only
    (conv => arg 3; whnf); repeat (first | ((with_reducible refine sat_brT ?_ ?_); rfl; conv => arg 3; whnf) | ((with_reducible refine sat_brF ?_ ?_); rfl; conv => arg 3; whnf) | ((with_reducible refine sat_eqv ?_ ?_); rfl; conv => arg 3; whnf))
    refine sat_br (fun h => ?_) (fun h => ?_)
    · have h : i < es.length := by have := of_decide_eq_true h; rw [List.length_map] at this; omega
      obtain ⟨b, long⟩ := W
      cases long
      · obtain ⟨o1, o2, o3, o4⟩ := hok rfl
        have hg : es[i]? = some es[i] := List.getElem?_eq_getElem h
        generalize hx : es[i] = p at *
        obtain ⟨x, f⟩ := p
        have hmem : (x, f) ∈ es := List.mem_of_getElem? hg
        obtain ⟨hx1, hx2⟩ := hes _ hmem
        have hx2 : x.cmd.data.length ≤ 2 ^ 30 := hx2
        have o4 : b.length ≤ 118 + i * 65614 := o4
        have hlx : (entryB x).length = 78 + x.cmd.data.length := entryB_len (x := x) hx1
        (conv => arg 3; whnf); repeat (first | ((with_reducible refine sat_brT ?_ ?_); rfl; conv => arg 3; whnf) | ((with_reducible refine sat_brF ?_ ?_); rfl; conv => arg 3; whnf) | ((with_reducible refine sat_eqv ?_ ?_); rfl; conv => arg 3; whnf))
        refine sat_idx (x.t f) (by omega) (by rw [Int.toNat_natCast, List.getElem?_map, hg]; rfl) ?_
        (conv => arg 3; whnf); repeat (first | ((with_reducible refine sat_brT ?_ ?_); rfl; conv => arg 3; whnf) | ((with_reducible refine sat_brF ?_ ?_); rfl; conv => arg 3; whnf) | ((with_reducible refine sat_eqv ?_ ?_); rfl; conv => arg 3; whnf))
        refine sat_call (k_wentry ⟨b, false⟩ (by show b.length ≤ _; omega) x hx1) ?_
        rintro r H' ⟨rfl, rfl⟩
        (conv => arg 3; whnf); repeat (first | ((with_reducible refine sat_brT ?_ ?_); rfl; conv => arg 3; whnf) | ((with_reducible refine sat_brF ?_ ?_); rfl; conv => arg 3; whnf) | ((with_reducible refine sat_eqv ?_ ?_); rfl; conv => arg 3; whnf))
        refine sat_rng (wrap64 (by omega) (by omega)) ?_
        refine sat_ret ⟨⟨i + 1, Wr.entry ⟨b, false⟩ x, by omega, ?_, ?_, ?_⟩, rfl, rfl, by show es.length - (i + 1) < es.length - i; omega⟩
        · intro hl
          have hl : decide ((x.cmd.data.length : Int) > 65536) = false := hl
          have hl2 := of_decide_eq_false hl
          refine ⟨?_, o2, ?_, ?_⟩
          · rw [entry_b, take_succ_get hg, entriesB_append, entriesB_one, ← List.append_assoc]
            exact congrArg (· ++ entryB x) o1
          · rw [take_succ_get hg, List.any_append, o3]
            show (false || (elong (x, f) || false)) = false
            rw [show elong (x, f) = false from hl]; rfl
          · rw [entry_b, List.length_append]
            show b.length + (entryB x).length ≤ _
            omega
        · intro hl
          have hl : decide ((x.cmd.data.length : Int) > 65536) = true := hl
          exact .inr (List.any_eq_true.2 ⟨_, hmem, hl⟩)
        · rw [entry_b, List.length_append]
          show b.length + (entryB x).length ≤ _
          omega
      · (conv => arg 3; whnf); repeat (first | ((with_reducible refine sat_brT ?_ ?_); rfl; conv => arg 3; whnf) | ((with_reducible refine sat_brF ?_ ?_); rfl; conv => arg 3; whnf) | ((with_reducible refine sat_eqv ?_ ?_); rfl; conv => arg 3; whnf))
        exact sat_ret ⟨_, rfl, rfl, rfl, hbl, .inl ⟨rfl, hno rfl⟩⟩
    · have h : ¬ i < es.length := by have := of_decide_eq_false h; rw [List.length_map] at this; omega
      have htk : es.take i = es := List.take_of_length_le (by omega)
      (conv => arg 3; whnf); repeat (first | ((with_reducible refine sat_brT ?_ ?_); rfl; conv => arg 3; whnf) | ((with_reducible refine sat_brF ?_ ?_); rfl; conv => arg 3; whnf) | ((with_reducible refine sat_eqv ?_ ?_); rfl; conv => arg 3; whnf))
      refine sat_ret ⟨W, rfl, rfl, rfl, hbl, ?_⟩
      rw [htk] at hok
      cases hWl' : W.long
      · obtain ⟨o1, o2, o3, o4⟩ := hok hWl'
        exact .inr ⟨rfl, o1, decide_eq_false (by omega), o3⟩
      · exact .inl ⟨rfl, hno hWl'⟩
  · rintro ex fr' H' ⟨W, rfl, rfl, rfl, hbl, hcase⟩
    (conv => arg 3; whnf); repeat (first | ((with_reducible refine sat_brT ?_ ?_); rfl; conv => arg 3; whnf) | ((with_reducible refine sat_brF ?_ ?_); rfl; conv => arg 3; whnf) | ((with_reducible refine sat_eqv ?_ ?_); rfl; conv => arg 3; whnf))
    refine sat_call (k_data W (by omega) data (by omega)) ?_
    rintro r H' ⟨rfl, rfl⟩
    have hDb : (W.data data).b = W.b ++ (leB 4 data.length ++ data) := rfl
    have hDl : (W.data data).long = (W.long || decide ((data.length : Int) > 65536)) := rfl
    have hDn : (W.data data).b.length ≤ 2 ^ 50 := by rw [hDb, List.length_append, List.length_append, leB_len]; omega
    generalize W.data data = D at *
    (conv => arg 3; whnf); repeat (first | ((with_reducible refine sat_brT ?_ ?_); rfl; conv => arg 3; whnf) | ((with_reducible refine sat_brF ?_ ?_); rfl; conv => arg 3; whnf) | ((with_reducible refine sat_eqv ?_ ?_); rfl; conv => arg 3; whnf))
    refine sat_call (k_told D hDn) ?_
    rintro r H' (⟨h, rfl, rfl⟩ | ⟨h, rfl, rfl⟩)
    · (conv => arg 3; whnf); repeat (first | ((with_reducible refine sat_brT ?_ ?_); rfl; conv => arg 3; whnf) | ((with_reducible refine sat_brF ?_ ?_); rfl; conv => arg 3; whnf) | ((with_reducible refine sat_eqv ?_ ?_); rfl; conv => arg 3; whnf))
      have hbad : Ms.bad ⟨kind, [n0, n1, n2, n3, n4, n5, n6, n7, n8], yes, code, hash, es, data⟩ = true := by
        unfold Ms.bad
        rw [h] at hDl
        rcases hcase with ⟨c1, c2 | c2⟩ | ⟨c1, c2, c3, c4⟩
        · simp only [c2, Bool.true_or]
        · simp only [c2, Bool.true_or, Bool.or_true]
        · rw [c1, Bool.false_or] at hDl
          simp only [← hDl, Bool.or_true]
      exact sat_ret ⟨none, by rw [putM, if_pos hbad]; rfl, by rw [putM, if_pos hbad]⟩
    · (conv => arg 3; whnf); repeat (first | ((with_reducible refine sat_brT ?_ ?_); rfl; conv => arg 3; whnf) | ((with_reducible refine sat_brF ?_ ?_); rfl; conv => arg 3; whnf) | ((with_reducible refine sat_eqv ?_ ?_); rfl; conv => arg 3; whnf))
      rw [h] at hDl
      have hDl := hDl.symm
      rw [Bool.or_eq_false_iff] at hDl
      rcases hcase with ⟨c1, c2⟩ | ⟨c1, c2, c3, c4⟩
      · rw [c1] at hDl; exact absurd hDl.1 (by decide)
      · have hbad : ¬ Ms.bad ⟨kind, [n0, n1, n2, n3, n4, n5, n6, n7, n8], yes, code, hash, es, data⟩ = true := by
          unfold Ms.bad
          simp only [c3, c4, hDl.2]
          decide
        have hmb : D.b = msgB ⟨kind, [n0, n1, n2, n3, n4, n5, n6, n7, n8], yes, code, hash, es, data⟩ := by rw [hDb, c2, msgB, hHd]
        exact sat_ret ⟨_, by rw [putM, if_neg hbad, hmb], by rw [putM, if_neg hbad, hmb]⟩
end Stk
