/- Messages as bytes: the document's form. -/
import Derived.Test.YtliklkagieaoeaaP11
namespace Stk
open Go
set_option maxRecDepth 100000
set_option linter.unusedSimpArgs false
set_option linter.unusedVariables false
set_option maxHeartbeats 4000000
structure N9St (k : Int) (ns : List Int) where
  i : Nat
  b : List Tr
  cap : Option Nat
  eq : b = [u8 k] ++ nums (ns.take i)
  hcap : (cap = some 1 ∧ b.length = 1) ∨ cap = none
  le : i ≤ ns.length
structure E2St (es : List (En × Bool)) (B0 : List Tr) where
  i : Nat
  b : List Tr
  eq : b = B0 ++ entriesB (es.take i)
  no : (es.take i).any elong = false
  bl : b.length ≤ 118 + i * 65614
  le : i ≤ es.length
theorem r_PutMsg (m : Ms) (hm : m.OK) : ACalls PP GG F.ref20_PutMsg [m.av] [] (PutR (putM m)) := by
  have hhl := Ms.head_len hm
  obtain ⟨kind, ns, yes, code, hash, es, data⟩ := m
  have hn9 : ns.length = 9 := hm.n
  obtain ⟨n0, n1, n2, n3, n4, n5, n6, n7, n8, hns⟩ := nine hm.n
  replace hns : ns = [n0, n1, n2, n3, n4, n5, n6, n7, n8] := hns
  have hk : 0 ≤ kind ∧ kind ≤ 255 := hm.k
  have hh : hash.length = 32 := hm.h
  have hdl : data.length ≤ 2 ^ 30 := hm.dl
  have hel : es.length ≤ 2 ^ 30 := hm.el
  have hes : ∀ p ∈ es, p.1.cmd.OK ∧ p.1.cmd.data.length ≤ 2 ^ 30 := hm.e
  have hav : Ms.av ⟨kind, ns, yes, code, hash, es, data⟩ = av15 kind n0 n1 n2 n3 n4 n5 n6 n7 n8 yes code hash (.bz 40 (es.map eT)) (.bz 1 data) := by rw [hns]; rfl
  have hm9 : ns.map i6 = [i6 n0, i6 n1, i6 n2, i6 n3, i6 n4, i6 n5, i6 n6, i6 n7, i6 n8] := by rw [hns]; rfl
  rw [hav]
  generalize hMM : (⟨kind, ns, yes, code, hash, es, data⟩ : Ms) = MM
  refine K.ref20_PutMsg.callsC rfl ?_
  (conv => arg 3; whnf); repeat (first | ((with_reducible refine sat_brT ?_ ?_); rfl; conv => arg 3; whnf) | ((with_reducible refine sat_brF ?_ ?_); rfl; conv => arg 3; whnf) | ((with_reducible refine sat_eqv ?_ ?_); rfl; conv => arg 3; whnf))
  rw [List.length_map]
  have hbadM : MM.bad = (decide ((es.length : Int) > 200) || es.any elong || decide ((data.length : Int) > 65536)) := by rw [← hMM]; rfl
  generalize h200 : decide ((es.length : Int) > 200) = g
  rw [h200] at hbadM
  cases g
  · have h200 := of_decide_eq_false h200
    (conv => arg 3; whnf); repeat (first | ((with_reducible refine sat_brT ?_ ?_); rfl; conv => arg 3; whnf) | ((with_reducible refine sat_brF ?_ ?_); rfl; conv => arg 3; whnf) | ((with_reducible refine sat_eqv ?_ ?_); rfl; conv => arg 3; whnf))
    generalize hdt : decide ((data.length : Int) > 65536) = g
    rw [hdt] at hbadM
    cases g
    · have hdt := of_decide_eq_false hdt
      (conv => arg 3; whnf); repeat (first | ((with_reducible refine sat_brT ?_ ?_); rfl; conv => arg 3; whnf) | ((with_reducible refine sat_brF ?_ ?_); rfl; conv => arg 3; whnf) | ((with_reducible refine sat_eqv ?_ ?_); rfl; conv => arg 3; whnf))
      refine sat_loopOf mkX_ops (σ := N9St kind ns) (fun x => [(1, pt 0), (4, .sl 1 0 [] 0 x.b.length x.cap), (5, .sl 2 0 [] 0 9 (some 9)), (6, ti x.i)]) (fun x => [.var (av15 kind n0 n1 n2 n3 n4 n5 n6 n7 n8 yes code hash (.bz 40 (es.map eT)) (.bz 1 data)), .row 1 x.b, .row 1 [i6 n0, i6 n1, i6 n2, i6 n3, i6 n4, i6 n5, i6 n6, i6 n7, i6 n8]]) (fun x => 9 - x.i)
        (fun ex fr' H' => ∃ b : List Tr, b = [u8 kind] ++ nums ns ∧ H' = [.var (av15 kind n0 n1 n2 n3 n4 n5 n6 n7 n8 yes code hash (.bz 40 (es.map eT)) (.bz 1 data)), .row 1 b, .row 1 [i6 n0, i6 n1, i6 n2, i6 n3, i6 n4, i6 n5, i6 n6, i6 n7, i6 n8]] ∧ ex = .exit 0 ∧ fr' = [(1, pt 0), (4, .sl 1 0 [] 0 b.length none)])
        ⟨0, [u8 kind], some 1, rfl, .inl ⟨rfl, rfl⟩, Nat.zero_le _⟩ ?_ ?_
      · rintro ⟨i, b, cap, heq, hcap, hi⟩
        dsimp only
        have hbl : b.length = 1 + 8 * i := by rw [heq, List.length_append, nums_len, List.length_take]; simp; omega
        (conv => arg 3; whnf); repeat (first | ((with_reducible refine sat_brT ?_ ?_); rfl; conv => arg 3; whnf) | ((with_reducible refine sat_brF ?_ ?_); rfl; conv => arg 3; whnf) | ((with_reducible refine sat_eqv ?_ ?_); rfl; conv => arg 3; whnf))
        refine sat_br (fun h => ?_) (fun h => ?_)
        · have h : i < 9 := by have := of_decide_eq_true h; omega
          have hg2 : ns[i]? = some (ns[i]'(by omega)) := List.getElem?_eq_getElem (by omega)
          generalize ns[i]'(by omega) = v at *
          have hg : (ns.map i6)[i]? = some (i6 v) := by rw [List.getElem?_map, hg2]; rfl
          rw [hm9] at hg
          (conv => arg 3; whnf); repeat (first | ((with_reducible refine sat_brT ?_ ?_); rfl; conv => arg 3; whnf) | ((with_reducible refine sat_brF ?_ ?_); rfl; conv => arg 3; whnf) | ((with_reducible refine sat_eqv ?_ ?_); rfl; conv => arg 3; whnf))
          refine sat_asrt (by simp; omega) ?_
          refine sat_idx (i6 v) (by omega) (by rw [show (((0 + (i : Int).toNat : Nat) : Int)).toNat = i by omega]; exact hg) ?_
          (conv => arg 3; whnf); repeat (first | ((with_reducible refine sat_brT ?_ ?_); rfl; conv => arg 3; whnf) | ((with_reducible refine sat_brF ?_ ?_); rfl; conv => arg 3; whnf) | ((with_reducible refine sat_eqv ?_ ?_); rfl; conv => arg 3; whnf))
          refine sat_call (k_number v) ?_
          rintro r H' ⟨rfl, rfl⟩
          have e9 : b ++ num v = [u8 kind] ++ nums (ns.take (i + 1)) := by rw [heq, take_succ_get hg2, nums_append, nums_cons, nums_nil, List.append_nil, List.append_assoc]
          rcases hcap with ⟨rfl, h1⟩ | rfl
          · (conv => arg 3; whnf); repeat (first | ((with_reducible refine sat_brT ?_ ?_); rfl; conv => arg 3; whnf) | ((with_reducible refine sat_brF ?_ ?_); rfl; conv => arg 3; whnf) | ((with_reducible refine sat_eqv ?_ ?_); rfl; conv => arg 3; whnf))
            rw [tk8, List.drop_zero, List.take_length]
            refine sat_asrt (by simp [roomy, num_len]; omega) ?_
            (conv => arg 3; whnf); repeat (first | ((with_reducible refine sat_brT ?_ ?_); rfl; conv => arg 3; whnf) | ((with_reducible refine sat_brF ?_ ?_); rfl; conv => arg 3; whnf) | ((with_reducible refine sat_eqv ?_ ?_); rfl; conv => arg 3; whnf))
            refine sat_rng (wrap64 (by omega) (by omega)) ?_
            exact sat_ret ⟨⟨i + 1, b ++ num v, none, e9, .inr rfl, by omega⟩, by rw [← List.length_append]; rfl, rfl, by show 9 - (i + 1) < 9 - i; omega⟩
          · (conv => arg 3; whnf); repeat (first | ((with_reducible refine sat_brT ?_ ?_); rfl; conv => arg 3; whnf) | ((with_reducible refine sat_brF ?_ ?_); rfl; conv => arg 3; whnf) | ((with_reducible refine sat_eqv ?_ ?_); rfl; conv => arg 3; whnf))
            rw [tk8]
            refine sat_asrt (by simp) ?_
            refine sat_asrt (by simp [roomy, num_len]; omega) ?_
            refine sat_brT (by simp) ?_
            (conv => arg 3; whnf); repeat (first | ((with_reducible refine sat_brT ?_ ?_); rfl; conv => arg 3; whnf) | ((with_reducible refine sat_brF ?_ ?_); rfl; conv => arg 3; whnf) | ((with_reducible refine sat_eqv ?_ ?_); rfl; conv => arg 3; whnf))
            refine sat_rng (wrap64 (by omega) (by omega)) ?_
            exact sat_ret ⟨⟨i + 1, b ++ num v, none, e9, .inr rfl, by omega⟩, rfl, rfl, by show 9 - (i + 1) < 9 - i; omega⟩
        · have h : ¬ i < 9 := by have := of_decide_eq_false h; omega
          obtain rfl : i = 9 := by omega
          rw [List.take_of_length_le (by omega)] at heq
          rcases hcap with ⟨rfl, h1⟩ | rfl
          · omega
          · exact sat_ret ⟨b, heq, rfl, rfl, rfl⟩
      · rintro ex fr' H' ⟨b, heq, rfl, rfl, rfl⟩
        have hbl : b.length = 73 := by rw [heq, List.length_append, nums_len, hn9]; rfl
        have eh : List.take (32 - 0) (List.drop 0 hash) = hash := by rw [List.drop_zero, List.take_of_length_le (by omega)]
        have e4 : ∀ n : Int, List.take 4 (List.drop 0 (leB 4 n)) = leB 4 n := fun n => by rw [List.drop_zero, List.take_of_length_le (by rw [leB_len]; omega)]
        (conv => arg 3; whnf); repeat (first | ((with_reducible refine sat_brT ?_ ?_); rfl; conv => arg 3; whnf) | ((with_reducible refine sat_brF ?_ ?_); rfl; conv => arg 3; whnf) | ((with_reducible refine sat_eqv ?_ ?_); rfl; conv => arg 3; whnf))
        refine sat_call (k_rmark yes) ?_
        rintro r H' ⟨rfl, rfl⟩
        (conv => arg 3; whnf); repeat (first | ((with_reducible refine sat_brT ?_ ?_); rfl; conv => arg 3; whnf) | ((with_reducible refine sat_brF ?_ ?_); rfl; conv => arg 3; whnf) | ((with_reducible refine sat_eqv ?_ ?_); rfl; conv => arg 3; whnf))
        rw [show List.take 1 (List.drop 0 (mkB yes)) = mkB yes from rfl]
        refine sat_asrt (by simp) ?_
        refine sat_asrt (by simp [roomy, num_len, mkB, leB_len]; omega) ?_
        refine sat_brT (by simp) ?_
        (conv => arg 3; whnf); repeat (first | ((with_reducible refine sat_brT ?_ ?_); rfl; conv => arg 3; whnf) | ((with_reducible refine sat_brF ?_ ?_); rfl; conv => arg 3; whnf) | ((with_reducible refine sat_eqv ?_ ?_); rfl; conv => arg 3; whnf))
        refine sat_call (k_number code) ?_
        rintro r H' ⟨rfl, rfl⟩
        (conv => arg 3; whnf); repeat (first | ((with_reducible refine sat_brT ?_ ?_); rfl; conv => arg 3; whnf) | ((with_reducible refine sat_brF ?_ ?_); rfl; conv => arg 3; whnf) | ((with_reducible refine sat_eqv ?_ ?_); rfl; conv => arg 3; whnf))
        rw [tk8]
        refine sat_asrt (by simp) ?_
        refine sat_asrt (by simp [roomy, num_len, mkB, leB_len]; omega) ?_
        refine sat_brT (by simp) ?_
        (conv => arg 3; whnf); repeat (first | ((with_reducible refine sat_brT ?_ ?_); rfl; conv => arg 3; whnf) | ((with_reducible refine sat_brF ?_ ?_); rfl; conv => arg 3; whnf) | ((with_reducible refine sat_eqv ?_ ?_); rfl; conv => arg 3; whnf))
        refine sat_asrt (by simp [hh]) ?_
        (conv => arg 3; whnf); repeat (first | ((with_reducible refine sat_brT ?_ ?_); rfl; conv => arg 3; whnf) | ((with_reducible refine sat_brF ?_ ?_); rfl; conv => arg 3; whnf) | ((with_reducible refine sat_eqv ?_ ?_); rfl; conv => arg 3; whnf))
        rw [eh]
        refine sat_asrt (by simp) ?_
        refine sat_asrt (by simp [roomy, num_len, mkB, hh]; omega) ?_
        refine sat_brT (by simp) ?_
        (conv => arg 3; whnf); repeat (first | ((with_reducible refine sat_brT ?_ ?_); rfl; conv => arg 3; whnf) | ((with_reducible refine sat_brF ?_ ?_); rfl; conv => arg 3; whnf) | ((with_reducible refine sat_eqv ?_ ?_); rfl; conv => arg 3; whnf))
        refine sat_rng (by rw [IntKind.wrap_u64, List.length_map]; omega) ?_
        (conv => arg 3; whnf); repeat (first | ((with_reducible refine sat_brT ?_ ?_); rfl; conv => arg 3; whnf) | ((with_reducible refine sat_brF ?_ ?_); rfl; conv => arg 3; whnf) | ((with_reducible refine sat_eqv ?_ ?_); rfl; conv => arg 3; whnf))
        rw [List.length_map]
        refine sat_call (k_low (es.length : Int) (by omega) 4 (by omega)) ?_
        rintro r H' ⟨rfl, rfl⟩
        (conv => arg 3; whnf); repeat (first | ((with_reducible refine sat_brT ?_ ?_); rfl; conv => arg 3; whnf) | ((with_reducible refine sat_brF ?_ ?_); rfl; conv => arg 3; whnf) | ((with_reducible refine sat_eqv ?_ ?_); rfl; conv => arg 3; whnf))
        rw [e4]
        refine sat_asrt (by simp) ?_
        refine sat_asrt (by simp [roomy, num_len, mkB, leB_len]; omega) ?_
        refine sat_brT (by simp) ?_
        have hB0 : b ++ mkB yes ++ num code ++ hash ++ leB 4 es.length = MM.head := by rw [heq, ← hMM]; simp [Ms.head]
        rw [hB0]
        rw [hMM] at hhl
        have hmsg : msgB MM = MM.head ++ entriesB es ++ (leB 4 data.length ++ data) := by rw [← hMM]; rfl
        generalize MM.head = B0 at *
        (conv => arg 3; whnf); repeat (first | ((with_reducible refine sat_brT ?_ ?_); rfl; conv => arg 3; whnf) | ((with_reducible refine sat_brF ?_ ?_); rfl; conv => arg 3; whnf) | ((with_reducible refine sat_eqv ?_ ?_); rfl; conv => arg 3; whnf))
        refine sat_loopOf mkX_ops (σ := E2St es B0) (fun x => [(1, pt 0), (4, .sl 1 0 [] 0 x.b.length none), (7, ti x.i)]) (fun x => [.var (av15 kind n0 n1 n2 n3 n4 n5 n6 n7 n8 yes code hash (.bz 40 (es.map eT)) (.bz 1 data)), .row 1 x.b]) (fun x => es.length - x.i)
          (fun ex fr' H' => ∃ b : List Tr, b.length ≤ 2 ^ 30 ∧ ((ex = .exit 2 ∧ es.any elong = false ∧ b = B0 ++ entriesB es ∧ H' = [.var (av15 kind n0 n1 n2 n3 n4 n5 n6 n7 n8 yes code hash (.bz 40 (es.map eT)) (.bz 1 data)), .row 1 b] ∧ fr' = [(1, pt 0), (2, .undef), (3, .undef), (4, .sl 1 0 [] 0 b.length none)]) ∨
            (ex = .ret ∧ es.any elong = true ∧ H' = [.var (av15 kind n0 n1 n2 n3 n4 n5 n6 n7 n8 yes code hash (.bz 40 (es.map eT)) (.bz 1 data)), .row 1 b, .row 1 [], .row 1 []] ∧ fr' = [(1, pt 0), (2, .sl 3 0 [] 0 0 none), (3, ti 3), (4, .sl 1 0 [] 0 b.length none)])))
          ⟨0, B0, by simp [entriesB], rfl, by omega, Nat.zero_le _⟩ ?_ ?_
        · rintro ⟨i, b, heq, hno, hbl, hi⟩
          dsimp only
          (conv => arg 3; whnf); repeat (first | ((with_reducible refine sat_brT ?_ ?_); rfl; conv => arg 3; whnf) | ((with_reducible refine sat_brF ?_ ?_); rfl; conv => arg 3; whnf) | ((with_reducible refine sat_eqv ?_ ?_); rfl; conv => arg 3; whnf))
          refine sat_br (fun h => ?_) (fun h => ?_)
          · have h : i < es.length := by have := of_decide_eq_true h; rw [List.length_map] at this; omega
            have hg : es[i]? = some es[i] := List.getElem?_eq_getElem h
            generalize hx : es[i] = p at *
            obtain ⟨x, f⟩ := p
            have hmem : (x, f) ∈ es := List.mem_of_getElem? hg
            obtain ⟨hx1, hx2⟩ := hes _ hmem
            have hx2 : x.cmd.data.length ≤ 2 ^ 30 := hx2
            have hlx : (entryB x).length = 78 + x.cmd.data.length := entryB_len (x := x) hx1
            have hP := r_PutEntry x hx1
            (conv => arg 3; whnf); repeat (first | ((with_reducible refine sat_brT ?_ ?_); rfl; conv => arg 3; whnf) | ((with_reducible refine sat_brF ?_ ?_); rfl; conv => arg 3; whnf) | ((with_reducible refine sat_eqv ?_ ?_); rfl; conv => arg 3; whnf))
            refine sat_idx (x.t f) (by omega) (by rw [Int.toNat_natCast, List.getElem?_map, hg]; rfl) ?_
            (conv => arg 3; whnf); repeat (first | ((with_reducible refine sat_brT ?_ ?_); rfl; conv => arg 3; whnf) | ((with_reducible refine sat_brF ?_ ?_); rfl; conv => arg 3; whnf) | ((with_reducible refine sat_eqv ?_ ?_); rfl; conv => arg 3; whnf))
            by_cases hl : (x.cmd.data.length : Int) > 65536
            · rw [show putE x = ([], 3) by rw [putE, if_pos hl]] at hP
              refine sat_call hP ?_
              rintro r H' ⟨cap, rfl, rfl⟩
              (conv => arg 3; whnf); repeat (first | ((with_reducible refine sat_brT ?_ ?_); rfl; conv => arg 3; whnf) | ((with_reducible refine sat_brF ?_ ?_); rfl; conv => arg 3; whnf) | ((with_reducible refine sat_eqv ?_ ?_); rfl; conv => arg 3; whnf))
              exact sat_ret ⟨b, by omega, .inr ⟨rfl, List.any_eq_true.2 ⟨_, hmem, decide_eq_true hl⟩, rfl, rfl⟩⟩
            · rw [show putE x = (entryB x, 0) by rw [putE, if_neg hl]] at hP
              refine sat_call hP ?_
              rintro r H' ⟨cap, rfl, rfl⟩
              (conv => arg 3; whnf); repeat (first | ((with_reducible refine sat_brT ?_ ?_); rfl; conv => arg 3; whnf) | ((with_reducible refine sat_brF ?_ ?_); rfl; conv => arg 3; whnf) | ((with_reducible refine sat_eqv ?_ ?_); rfl; conv => arg 3; whnf))
              rw [List.drop_zero, List.take_length]
              refine sat_asrt (by simp) ?_
              refine sat_asrt (by simp [roomy]; omega) ?_
              refine sat_brT (by simp) ?_
              (conv => arg 3; whnf); repeat (first | ((with_reducible refine sat_brT ?_ ?_); rfl; conv => arg 3; whnf) | ((with_reducible refine sat_brF ?_ ?_); rfl; conv => arg 3; whnf) | ((with_reducible refine sat_eqv ?_ ?_); rfl; conv => arg 3; whnf))
              refine sat_rng (wrap64 (by omega) (by omega)) ?_
              refine sat_ret ⟨⟨i + 1, b ++ entryB x, ?_, ?_, ?_, by omega⟩, rfl, rfl, by show es.length - (i + 1) < es.length - i; omega⟩
              · rw [heq, take_succ_get hg, entriesB_append, entriesB_one, List.append_assoc]
              · rw [take_succ_get hg, List.any_append, hno]
                show (false || (elong (x, f) || false)) = false
                rw [show elong (x, f) = false from decide_eq_false hl]; rfl
              · rw [List.length_append]; omega
          · have h : ¬ i < es.length := by have := of_decide_eq_false h; rw [List.length_map] at this; omega
            rw [List.take_of_length_le (by omega)] at heq hno
            (conv => arg 3; whnf); repeat (first | ((with_reducible refine sat_brT ?_ ?_); rfl; conv => arg 3; whnf) | ((with_reducible refine sat_brF ?_ ?_); rfl; conv => arg 3; whnf) | ((with_reducible refine sat_eqv ?_ ?_); rfl; conv => arg 3; whnf))
            exact sat_ret ⟨b, by omega, .inl ⟨rfl, hno, heq, rfl, rfl⟩⟩
        · rintro ex fr' H' ⟨b, hbl, ⟨rfl, hno, heq, rfl, rfl⟩ | ⟨rfl, hno, rfl, rfl⟩⟩
          · (conv => arg 3; whnf); repeat (first | ((with_reducible refine sat_brT ?_ ?_); rfl; conv => arg 3; whnf) | ((with_reducible refine sat_brF ?_ ?_); rfl; conv => arg 3; whnf) | ((with_reducible refine sat_eqv ?_ ?_); rfl; conv => arg 3; whnf))
            refine sat_rng (by rw [IntKind.wrap_u64]; omega) ?_
            (conv => arg 3; whnf); repeat (first | ((with_reducible refine sat_brT ?_ ?_); rfl; conv => arg 3; whnf) | ((with_reducible refine sat_brF ?_ ?_); rfl; conv => arg 3; whnf) | ((with_reducible refine sat_eqv ?_ ?_); rfl; conv => arg 3; whnf))
            refine sat_call (k_low (data.length : Int) (by omega) 4 (by omega)) ?_
            rintro r H' ⟨rfl, rfl⟩
            (conv => arg 3; whnf); repeat (first | ((with_reducible refine sat_brT ?_ ?_); rfl; conv => arg 3; whnf) | ((with_reducible refine sat_brF ?_ ?_); rfl; conv => arg 3; whnf) | ((with_reducible refine sat_eqv ?_ ?_); rfl; conv => arg 3; whnf))
            rw [e4]
            refine sat_asrt (by simp) ?_
            refine sat_asrt (by simp [roomy, leB_len]; omega) ?_
            refine sat_brT (by simp) ?_
            (conv => arg 3; whnf); repeat (first | ((with_reducible refine sat_brT ?_ ?_); rfl; conv => arg 3; whnf) | ((with_reducible refine sat_brF ?_ ?_); rfl; conv => arg 3; whnf) | ((with_reducible refine sat_eqv ?_ ?_); rfl; conv => arg 3; whnf))
            refine sat_asrt (by simp) ?_
            refine sat_asrt (by simp [roomy, leB_len]; omega) ?_
            refine sat_brT (by simp) ?_
            (conv => arg 3; whnf); repeat (first | ((with_reducible refine sat_brT ?_ ?_); rfl; conv => arg 3; whnf) | ((with_reducible refine sat_brF ?_ ?_); rfl; conv => arg 3; whnf) | ((with_reducible refine sat_eqv ?_ ?_); rfl; conv => arg 3; whnf))
            have hbad : ¬ MM.bad = true := by rw [hbadM, hno]; decide
            have hmb : b ++ leB 4 data.length ++ data = msgB MM := by rw [hmsg, heq, List.append_assoc]
            exact sat_ret ⟨none, by rw [putM, if_neg hbad, hmb], by rw [putM, if_neg hbad, hmb]⟩
          · (conv => arg 3; whnf); repeat (first | ((with_reducible refine sat_brT ?_ ?_); rfl; conv => arg 3; whnf) | ((with_reducible refine sat_brF ?_ ?_); rfl; conv => arg 3; whnf) | ((with_reducible refine sat_eqv ?_ ?_); rfl; conv => arg 3; whnf))
            have hbad : MM.bad = true := by rw [hbadM, hno]; rfl
            exact sat_ret ⟨none, by rw [putM, if_pos hbad]; rfl, by rw [putM, if_pos hbad]⟩
    · (conv => arg 3; whnf); repeat (first | ((with_reducible refine sat_brT ?_ ?_); rfl; conv => arg 3; whnf) | ((with_reducible refine sat_brF ?_ ?_); rfl; conv => arg 3; whnf) | ((with_reducible refine sat_eqv ?_ ?_); rfl; conv => arg 3; whnf))
      have hbad : MM.bad = true := by rw [hbadM]; simp
      exact sat_ret ⟨none, by rw [putM, if_pos hbad]; rfl, by rw [putM, if_pos hbad]⟩
  · (conv => arg 3; whnf); repeat (first | ((with_reducible refine sat_brT ?_ ?_); rfl; conv => arg 3; whnf) | ((with_reducible refine sat_brF ?_ ?_); rfl; conv => arg 3; whnf) | ((with_reducible refine sat_eqv ?_ ?_); rfl; conv => arg 3; whnf))
    have hbad : MM.bad = true := by rw [hbadM]; simp
    exact sat_ret ⟨none, by rw [putM, if_pos hbad]; rfl, by rw [putM, if_pos hbad]⟩
end Stk
