/- Messages: what is the same, copies, sizes. -/
import Derived.Test.YtliklkagieaoeaaP12
namespace Stk
open Go
set_option maxRecDepth 100000
set_option linter.unusedSimpArgs false
set_option linter.unusedVariables false
set_option maxHeartbeats 4000000
theorem r_sameEs (a b : List (En × Bool)) (ha : ∀ p ∈ a, p.1.cmd.OK) (hb : ∀ p ∈ b, p.1.cmd.OK) (hl : a.length ≤ 2 ^ 50) : ACalls PP GG F.ref20_SameEntries [.bz 40 (a.map eT), .bz 40 (b.map eT)] [] fun r H' => ∃ q, r = tb q ∧ (q = true ↔ a.map Prod.fst = b.map Prod.fst) ∧ H' = [] := by
  refine K.ref20_SameEntries.callsC rfl ?_
  refine sat_br (fun h => ?_) (fun h => ?_)
  · refine sat_ret ⟨false, rfl, ?_, rfl⟩
    simp at h
    simp
    intro h2
    have := congrArg List.length h2
    simp at this
    omega
  · have hab : a.length = b.length := by simp at h; omega
    refine sat_loopOf mkX_ops (σ := SaSt (a.map Prod.fst) (b.map Prod.fst)) (fun x => [(0, .bz 40 (a.map eT)), (1, .bz 40 (b.map eT)), (5, ti x.i)]) (fun _ => []) (fun x => a.length - x.i)
      (fun ex fr' H' => H' = [] ∧ ((ex = .ret ∧ fr' = [(4, tb false)] ∧ a.map Prod.fst ≠ b.map Prod.fst) ∨ (ex = .exit 0 ∧ fr' = [(4, .undef)] ∧ a.map Prod.fst = b.map Prod.fst))) ⟨0, Nat.zero_le _, rfl⟩ ?_ ?_
    · rintro ⟨i, hi, heq⟩
      dsimp only
      refine sat_br (fun h => ?_) (fun h => ?_)
      · have h : i < a.length := by simpa using h
        have hu : a[i]? = some a[i] := List.getElem?_eq_getElem h
        have hv : b[i]? = some (b[i]'(by omega)) := List.getElem?_eq_getElem (by omega)
        generalize a[i] = u at *
        generalize b[i]'(by omega) = v at *
        have hu1 := ha _ (List.mem_of_getElem? hu)
        have hv1 := hb _ (List.mem_of_getElem? hv)
        have hu2 : (a.map Prod.fst)[i]? = some u.1 := by rw [List.getElem?_map, hu]; rfl
        have hv2 : (b.map Prod.fst)[i]? = some v.1 := by rw [List.getElem?_map, hv]; rfl
        (conv => arg 3; whnf); repeat (first | ((with_reducible refine sat_brT ?_ ?_); rfl; conv => arg 3; whnf) | ((with_reducible refine sat_brF ?_ ?_); rfl; conv => arg 3; whnf) | ((with_reducible refine sat_eqv ?_ ?_); rfl; conv => arg 3; whnf))
        refine sat_idx (eT u) (by simp) (by rw [Int.toNat_natCast, List.getElem?_map, hu]; rfl) ?_
        refine sat_idx (eT v) (by simp) (by rw [Int.toNat_natCast, List.getElem?_map, hv]; rfl) ?_
        refine sat_call (r_sameE u.1 v.1 hu1 hv1) ?_
        rintro r H' ⟨q, rfl, hq, rfl⟩
        (conv => arg 3; whnf); repeat (first | ((with_reducible refine sat_brT ?_ ?_); rfl; conv => arg 3; whnf) | ((with_reducible refine sat_brF ?_ ?_); rfl; conv => arg 3; whnf) | ((with_reducible refine sat_eqv ?_ ?_); rfl; conv => arg 3; whnf))
        refine sat_br (fun h2 => ?_) (fun h2 => ?_)
        · refine sat_ret ⟨rfl, .inl ⟨rfl, rfl, ?_⟩⟩
          intro he
          rw [he] at hu2
          have : u.1 = v.1 := by rw [hu2] at hv2; exact Option.some.inj hv2
          simp [hq.2 this] at h2
        · have : u.1 = v.1 := hq.1 (by simpa using h2)
          (conv => arg 3; whnf); repeat (first | ((with_reducible refine sat_brT ?_ ?_); rfl; conv => arg 3; whnf) | ((with_reducible refine sat_brF ?_ ?_); rfl; conv => arg 3; whnf) | ((with_reducible refine sat_eqv ?_ ?_); rfl; conv => arg 3; whnf))
          refine sat_rng (wrap64 (by omega) (by omega)) ?_
          refine sat_ret ⟨⟨i + 1, by rw [List.length_map]; omega, ?_⟩, rfl, rfl, by show a.length - (i + 1) < a.length - i; omega⟩
          rw [take_succ_get hu2, take_succ_get hv2, heq, this]
      · have h : ¬ i < a.length := by simpa using h
        refine sat_ret ⟨rfl, .inr ⟨rfl, rfl, ?_⟩⟩
        rw [List.take_of_length_le (by rw [List.length_map]; omega), List.take_of_length_le (by rw [List.length_map]; omega)] at heq
        exact heq
    · rintro ex fr' H' ⟨rfl, ⟨rfl, rfl, h⟩ | ⟨rfl, rfl, h⟩⟩
      · exact sat_ret ⟨false, rfl, by simpa using h, rfl⟩
      · exact sat_ret ⟨true, rfl, by simpa using h, rfl⟩
/-- The same message. -/
def Ms.sm (m n : Ms) : Prop := m.kind = n.kind ∧ m.ns = n.ns ∧ m.yes = n.yes ∧ m.code = n.code ∧ m.hash = n.hash ∧ m.data = n.data ∧ m.es.map Prod.fst = n.es.map Prod.fst
theorem Ms.sm_refl (m : Ms) : m.sm m := ⟨rfl, rfl, rfl, rfl, rfl, rfl, rfl⟩
theorem r_sameM (m n : Ms) (hm : m.OK) (hn : n.OK) : ACalls PP GG F.ref20_SameMsg [m.av, n.av] [] fun r H' => ∃ q, r = tb q ∧ (q = true ↔ m.sm n) ∧ H' = [] := by
  refine K.ref20_SameMsg.callsC rfl ?_
  (conv => arg 3; whnf); repeat (first | ((with_reducible refine sat_brT ?_ ?_); rfl; conv => arg 3; whnf) | ((with_reducible refine sat_brF ?_ ?_); rfl; conv => arg 3; whnf) | ((with_reducible refine sat_eqv ?_ ?_); rfl; conv => arg 3; whnf))
  generalize hf0 : (m.kind == n.kind) = g
  cases g
  · (conv => arg 3; whnf); repeat (first | ((with_reducible refine sat_brT ?_ ?_); rfl; conv => arg 3; whnf) | ((with_reducible refine sat_brF ?_ ?_); rfl; conv => arg 3; whnf) | ((with_reducible refine sat_eqv ?_ ?_); rfl; conv => arg 3; whnf))
    exact sat_ret ⟨false, rfl, by constructor; (intro h; cases h); (rintro ⟨s1, s2, s3, s4, s5, s6, s7⟩; simp [s1] at hf0), rfl⟩
  (conv => arg 3; whnf); repeat (first | ((with_reducible refine sat_brT ?_ ?_); rfl; conv => arg 3; whnf) | ((with_reducible refine sat_brF ?_ ?_); rfl; conv => arg 3; whnf) | ((with_reducible refine sat_eqv ?_ ?_); rfl; conv => arg 3; whnf))
  generalize hf1 : (m.ns.getD 0 0 == n.ns.getD 0 0) = g
  cases g
  · (conv => arg 3; whnf); repeat (first | ((with_reducible refine sat_brT ?_ ?_); rfl; conv => arg 3; whnf) | ((with_reducible refine sat_brF ?_ ?_); rfl; conv => arg 3; whnf) | ((with_reducible refine sat_eqv ?_ ?_); rfl; conv => arg 3; whnf))
    exact sat_ret ⟨false, rfl, by constructor; (intro h; cases h); (rintro ⟨s1, s2, s3, s4, s5, s6, s7⟩; rw [s2] at hf1; simp at hf1), rfl⟩
  (conv => arg 3; whnf); repeat (first | ((with_reducible refine sat_brT ?_ ?_); rfl; conv => arg 3; whnf) | ((with_reducible refine sat_brF ?_ ?_); rfl; conv => arg 3; whnf) | ((with_reducible refine sat_eqv ?_ ?_); rfl; conv => arg 3; whnf))
  generalize hf2 : (m.ns.getD 1 0 == n.ns.getD 1 0) = g
  cases g
  · (conv => arg 3; whnf); repeat (first | ((with_reducible refine sat_brT ?_ ?_); rfl; conv => arg 3; whnf) | ((with_reducible refine sat_brF ?_ ?_); rfl; conv => arg 3; whnf) | ((with_reducible refine sat_eqv ?_ ?_); rfl; conv => arg 3; whnf))
    exact sat_ret ⟨false, rfl, by constructor; (intro h; cases h); (rintro ⟨s1, s2, s3, s4, s5, s6, s7⟩; rw [s2] at hf2; simp at hf2), rfl⟩
  (conv => arg 3; whnf); repeat (first | ((with_reducible refine sat_brT ?_ ?_); rfl; conv => arg 3; whnf) | ((with_reducible refine sat_brF ?_ ?_); rfl; conv => arg 3; whnf) | ((with_reducible refine sat_eqv ?_ ?_); rfl; conv => arg 3; whnf))
  generalize hf3 : (m.ns.getD 2 0 == n.ns.getD 2 0) = g
  cases g
  · (conv => arg 3; whnf); repeat (first | ((with_reducible refine sat_brT ?_ ?_); rfl; conv => arg 3; whnf) | ((with_reducible refine sat_brF ?_ ?_); rfl; conv => arg 3; whnf) | ((with_reducible refine sat_eqv ?_ ?_); rfl; conv => arg 3; whnf))
    exact sat_ret ⟨false, rfl, by constructor; (intro h; cases h); (rintro ⟨s1, s2, s3, s4, s5, s6, s7⟩; rw [s2] at hf3; simp at hf3), rfl⟩
  (conv => arg 3; whnf); repeat (first | ((with_reducible refine sat_brT ?_ ?_); rfl; conv => arg 3; whnf) | ((with_reducible refine sat_brF ?_ ?_); rfl; conv => arg 3; whnf) | ((with_reducible refine sat_eqv ?_ ?_); rfl; conv => arg 3; whnf))
  generalize hf4 : (m.ns.getD 3 0 == n.ns.getD 3 0) = g
  cases g
  · (conv => arg 3; whnf); repeat (first | ((with_reducible refine sat_brT ?_ ?_); rfl; conv => arg 3; whnf) | ((with_reducible refine sat_brF ?_ ?_); rfl; conv => arg 3; whnf) | ((with_reducible refine sat_eqv ?_ ?_); rfl; conv => arg 3; whnf))
    exact sat_ret ⟨false, rfl, by constructor; (intro h; cases h); (rintro ⟨s1, s2, s3, s4, s5, s6, s7⟩; rw [s2] at hf4; simp at hf4), rfl⟩
  (conv => arg 3; whnf); repeat (first | ((with_reducible refine sat_brT ?_ ?_); rfl; conv => arg 3; whnf) | ((with_reducible refine sat_brF ?_ ?_); rfl; conv => arg 3; whnf) | ((with_reducible refine sat_eqv ?_ ?_); rfl; conv => arg 3; whnf))
  generalize hf5 : (m.ns.getD 4 0 == n.ns.getD 4 0) = g
  cases g
  · (conv => arg 3; whnf); repeat (first | ((with_reducible refine sat_brT ?_ ?_); rfl; conv => arg 3; whnf) | ((with_reducible refine sat_brF ?_ ?_); rfl; conv => arg 3; whnf) | ((with_reducible refine sat_eqv ?_ ?_); rfl; conv => arg 3; whnf))
    exact sat_ret ⟨false, rfl, by constructor; (intro h; cases h); (rintro ⟨s1, s2, s3, s4, s5, s6, s7⟩; rw [s2] at hf5; simp at hf5), rfl⟩
  (conv => arg 3; whnf); repeat (first | ((with_reducible refine sat_brT ?_ ?_); rfl; conv => arg 3; whnf) | ((with_reducible refine sat_brF ?_ ?_); rfl; conv => arg 3; whnf) | ((with_reducible refine sat_eqv ?_ ?_); rfl; conv => arg 3; whnf))
  generalize hf6 : (m.ns.getD 5 0 == n.ns.getD 5 0) = g
  cases g
  · (conv => arg 3; whnf); repeat (first | ((with_reducible refine sat_brT ?_ ?_); rfl; conv => arg 3; whnf) | ((with_reducible refine sat_brF ?_ ?_); rfl; conv => arg 3; whnf) | ((with_reducible refine sat_eqv ?_ ?_); rfl; conv => arg 3; whnf))
    exact sat_ret ⟨false, rfl, by constructor; (intro h; cases h); (rintro ⟨s1, s2, s3, s4, s5, s6, s7⟩; rw [s2] at hf6; simp at hf6), rfl⟩
  (conv => arg 3; whnf); repeat (first | ((with_reducible refine sat_brT ?_ ?_); rfl; conv => arg 3; whnf) | ((with_reducible refine sat_brF ?_ ?_); rfl; conv => arg 3; whnf) | ((with_reducible refine sat_eqv ?_ ?_); rfl; conv => arg 3; whnf))
  generalize hf7 : (m.ns.getD 6 0 == n.ns.getD 6 0) = g
  cases g
  · (conv => arg 3; whnf); repeat (first | ((with_reducible refine sat_brT ?_ ?_); rfl; conv => arg 3; whnf) | ((with_reducible refine sat_brF ?_ ?_); rfl; conv => arg 3; whnf) | ((with_reducible refine sat_eqv ?_ ?_); rfl; conv => arg 3; whnf))
    exact sat_ret ⟨false, rfl, by constructor; (intro h; cases h); (rintro ⟨s1, s2, s3, s4, s5, s6, s7⟩; rw [s2] at hf7; simp at hf7), rfl⟩
  (conv => arg 3; whnf); repeat (first | ((with_reducible refine sat_brT ?_ ?_); rfl; conv => arg 3; whnf) | ((with_reducible refine sat_brF ?_ ?_); rfl; conv => arg 3; whnf) | ((with_reducible refine sat_eqv ?_ ?_); rfl; conv => arg 3; whnf))
  generalize hf8 : (m.ns.getD 7 0 == n.ns.getD 7 0) = g
  cases g
  · (conv => arg 3; whnf); repeat (first | ((with_reducible refine sat_brT ?_ ?_); rfl; conv => arg 3; whnf) | ((with_reducible refine sat_brF ?_ ?_); rfl; conv => arg 3; whnf) | ((with_reducible refine sat_eqv ?_ ?_); rfl; conv => arg 3; whnf))
    exact sat_ret ⟨false, rfl, by constructor; (intro h; cases h); (rintro ⟨s1, s2, s3, s4, s5, s6, s7⟩; rw [s2] at hf8; simp at hf8), rfl⟩
  (conv => arg 3; whnf); repeat (first | ((with_reducible refine sat_brT ?_ ?_); rfl; conv => arg 3; whnf) | ((with_reducible refine sat_brF ?_ ?_); rfl; conv => arg 3; whnf) | ((with_reducible refine sat_eqv ?_ ?_); rfl; conv => arg 3; whnf))
  generalize hf9 : (m.ns.getD 8 0 == n.ns.getD 8 0) = g
  cases g
  · (conv => arg 3; whnf); repeat (first | ((with_reducible refine sat_brT ?_ ?_); rfl; conv => arg 3; whnf) | ((with_reducible refine sat_brF ?_ ?_); rfl; conv => arg 3; whnf) | ((with_reducible refine sat_eqv ?_ ?_); rfl; conv => arg 3; whnf))
    exact sat_ret ⟨false, rfl, by constructor; (intro h; cases h); (rintro ⟨s1, s2, s3, s4, s5, s6, s7⟩; rw [s2] at hf9; simp at hf9), rfl⟩
  (conv => arg 3; whnf); repeat (first | ((with_reducible refine sat_brT ?_ ?_); rfl; conv => arg 3; whnf) | ((with_reducible refine sat_brF ?_ ?_); rfl; conv => arg 3; whnf) | ((with_reducible refine sat_eqv ?_ ?_); rfl; conv => arg 3; whnf))
  generalize hyes : nb false (m.yes == n.yes) = g
  cases g
  · (conv => arg 3; whnf); repeat (first | ((with_reducible refine sat_brT ?_ ?_); rfl; conv => arg 3; whnf) | ((with_reducible refine sat_brF ?_ ?_); rfl; conv => arg 3; whnf) | ((with_reducible refine sat_eqv ?_ ?_); rfl; conv => arg 3; whnf))
    exact sat_ret ⟨false, rfl, by constructor; (intro h; cases h); (rintro ⟨s1, s2, s3, s4, s5, s6, s7⟩; simp [nb, s3] at hyes), rfl⟩
  (conv => arg 3; whnf); repeat (first | ((with_reducible refine sat_brT ?_ ?_); rfl; conv => arg 3; whnf) | ((with_reducible refine sat_brF ?_ ?_); rfl; conv => arg 3; whnf) | ((with_reducible refine sat_eqv ?_ ?_); rfl; conv => arg 3; whnf))
  generalize hcode : (m.code == n.code) = g
  cases g
  · (conv => arg 3; whnf); repeat (first | ((with_reducible refine sat_brT ?_ ?_); rfl; conv => arg 3; whnf) | ((with_reducible refine sat_brF ?_ ?_); rfl; conv => arg 3; whnf) | ((with_reducible refine sat_eqv ?_ ?_); rfl; conv => arg 3; whnf))
    exact sat_ret ⟨false, rfl, by constructor; (intro h; cases h); (rintro ⟨s1, s2, s3, s4, s5, s6, s7⟩; simp [s4] at hcode), rfl⟩
  (conv => arg 3; whnf); repeat (first | ((with_reducible refine sat_brT ?_ ?_); rfl; conv => arg 3; whnf) | ((with_reducible refine sat_brF ?_ ?_); rfl; conv => arg 3; whnf) | ((with_reducible refine sat_eqv ?_ ?_); rfl; conv => arg 3; whnf))
  have hf1' := fits_h hm.hb
  have hf2' := fits_h hn.hb
  refine sat_asrt (by rw [hf1', hf2']; rfl) ?_
  (conv => arg 3; whnf); repeat (first | ((with_reducible refine sat_brT ?_ ?_); rfl; conv => arg 3; whnf) | ((with_reducible refine sat_brF ?_ ?_); rfl; conv => arg 3; whnf) | ((with_reducible refine sat_eqv ?_ ?_); rfl; conv => arg 3; whnf))
  generalize hhash : nb false ((Tr.arr 32 m.hash).eqb (Tr.arr 32 n.hash)) = g
  cases g
  · (conv => arg 3; whnf); repeat (first | ((with_reducible refine sat_brT ?_ ?_); rfl; conv => arg 3; whnf) | ((with_reducible refine sat_brF ?_ ?_); rfl; conv => arg 3; whnf) | ((with_reducible refine sat_eqv ?_ ?_); rfl; conv => arg 3; whnf))
    exact sat_ret ⟨false, rfl, by constructor; (intro h; cases h); (rintro ⟨s1, s2, s3, s4, s5, s6, s7⟩; rw [s5, show nb false ((Tr.arr 32 n.hash).eqb (Tr.arr 32 n.hash)) = Tr.eqbs n.hash n.hash from rfl, (eqbs_iff hn.hb hn.hb).2 rfl] at hhash; cases hhash), rfl⟩
  (conv => arg 3; whnf); repeat (first | ((with_reducible refine sat_brT ?_ ?_); rfl; conv => arg 3; whnf) | ((with_reducible refine sat_brF ?_ ?_); rfl; conv => arg 3; whnf) | ((with_reducible refine sat_eqv ?_ ?_); rfl; conv => arg 3; whnf))
  refine sat_call (r_sameB m.data n.data hm.db hn.db (by have := hm.dl; omega)) ?_
  rintro r H' ⟨q, rfl, hq, rfl⟩
  cases q
  · (conv => arg 3; whnf); repeat (first | ((with_reducible refine sat_brT ?_ ?_); rfl; conv => arg 3; whnf) | ((with_reducible refine sat_brF ?_ ?_); rfl; conv => arg 3; whnf) | ((with_reducible refine sat_eqv ?_ ?_); rfl; conv => arg 3; whnf))
    exact sat_ret ⟨false, rfl, by constructor; (intro h; cases h); (rintro ⟨s1, s2, s3, s4, s5, s6, s7⟩; exact absurd (hq.2 s6) (by decide)), rfl⟩
  (conv => arg 3; whnf); repeat (first | ((with_reducible refine sat_brT ?_ ?_); rfl; conv => arg 3; whnf) | ((with_reducible refine sat_brF ?_ ?_); rfl; conv => arg 3; whnf) | ((with_reducible refine sat_eqv ?_ ?_); rfl; conv => arg 3; whnf))
  refine sat_call (r_sameEs m.es n.es (fun p hp => (hm.e p hp).1) (fun p hp => (hn.e p hp).1) (by have := hm.el; omega)) ?_
  rintro r H' ⟨q, rfl, hq2, rfl⟩
  (conv => arg 3; whnf); repeat (first | ((with_reducible refine sat_brT ?_ ?_); rfl; conv => arg 3; whnf) | ((with_reducible refine sat_brF ?_ ?_); rfl; conv => arg 3; whnf) | ((with_reducible refine sat_eqv ?_ ?_); rfl; conv => arg 3; whnf))
  refine sat_ret ⟨q, rfl, ?_, rfl⟩
  rw [hq2]
  constructor
  · intro h7
    refine ⟨by simpa using hf0, ?_, by simpa [nb] using hyes, by simpa using hcode, (eqbs_iff hm.hb hn.hb).1 hhash, hq.1 rfl, h7⟩
    obtain ⟨a0, a1, a2, a3, a4, a5, a6, a7, a8, e1⟩ := nine hm.n
    obtain ⟨b0, b1, b2, b3, b4, b5, b6, b7, b8, e2⟩ := nine hn.n
    rw [e1, e2] at hf1 hf2 hf3 hf4 hf5 hf6 hf7 hf8 hf9 ⊢
    simp at hf1 hf2 hf3 hf4 hf5 hf6 hf7 hf8 hf9
    simp [hf1, hf2, hf3, hf4, hf5, hf6, hf7, hf8, hf9]
  · rintro ⟨s1, s2, s3, s4, s5, s6, s7⟩; exact s7
abbrev zMt : Tr := .agg [u8 0, i6 0, i6 0, i6 0, i6 0, i6 0, i6 0, i6 0, i6 0, i6 0, .bool false, i6 0, .arr 32 z32, .sl true 40 [], .sl true 1 []]
abbrev ownT (p : En × Bool) : Tr := p.1.t false
structure OwSt (es : List (En × Bool)) where
  i : Nat
  le : i ≤ es.length
abbrev Ms.ao (m : Ms) (b c : Nat) : AV := av15 m.kind (m.ns.getD 0 0) (m.ns.getD 1 0) (m.ns.getD 2 0) (m.ns.getD 3 0) (m.ns.getD 4 0) (m.ns.getD 5 0) (m.ns.getD 6 0) (m.ns.getD 7 0) (m.ns.getD 8 0) m.yes m.code m.hash (.sl b 0 [] 0 m.es.length none) (.sl c 0 [] 0 m.data.length none)
theorem r_ownM (m : Ms) (hm : m.OK) : ACalls PP GG F.ref20_OwnMsg [m.av] [] fun r H' => r = m.ao 0 1 ∧ H' = [.row 40 (m.es.map ownT), .row 1 m.data] := by
  have hel := hm.el
  have hdl := hm.dl
  refine K.ref20_OwnMsg.callsC rfl ?_
  (conv => arg 3; whnf); repeat (first | ((with_reducible refine sat_brT ?_ ?_); rfl; conv => arg 3; whnf) | ((with_reducible refine sat_brF ?_ ?_); rfl; conv => arg 3; whnf) | ((with_reducible refine sat_eqv ?_ ?_); rfl; conv => arg 3; whnf))
  refine sat_loopOf mkX_ops (σ := OwSt m.es) (fun x => [(1, pt 0), (2, pt 1), (3, .sl 2 0 [] 0 (m.es.take x.i).length none), (4, ti x.i)]) (fun x => [.var m.av, .var (.t zMt), .row 40 ((m.es.take x.i).map ownT)]) (fun x => m.es.length - x.i)
    (fun ex fr' H' => H' = [.var m.av, .var (.t zMt), .row 40 (m.es.map ownT)] ∧ ex = .exit 0 ∧ fr' = [(1, pt 0), (2, pt 1), (3, .sl 2 0 [] 0 m.es.length none)]) ⟨0, Nat.zero_le _⟩ ?_ ?_
  · rintro ⟨i, hi⟩
    dsimp only
    (conv => arg 3; whnf); repeat (first | ((with_reducible refine sat_brT ?_ ?_); rfl; conv => arg 3; whnf) | ((with_reducible refine sat_brF ?_ ?_); rfl; conv => arg 3; whnf) | ((with_reducible refine sat_eqv ?_ ?_); rfl; conv => arg 3; whnf))
    refine sat_br (fun h => ?_) (fun h => ?_)
    · have h : i < m.es.length := by have := of_decide_eq_true h; rw [List.length_map] at this; omega
      have hg : m.es[i]? = some m.es[i] := List.getElem?_eq_getElem h
      generalize hx : m.es[i] = p at *
      obtain ⟨x, f⟩ := p
      have hx1 := (hm.e _ (List.mem_of_getElem? hg)).1
      (conv => arg 3; whnf); repeat (first | ((with_reducible refine sat_brT ?_ ?_); rfl; conv => arg 3; whnf) | ((with_reducible refine sat_brF ?_ ?_); rfl; conv => arg 3; whnf) | ((with_reducible refine sat_eqv ?_ ?_); rfl; conv => arg 3; whnf))
      refine sat_idx (x.t f) (by omega) (by rw [Int.toNat_natCast, List.getElem?_map, hg]; rfl) ?_
      (conv => arg 3; whnf); repeat (first | ((with_reducible refine sat_brT ?_ ?_); rfl; conv => arg 3; whnf) | ((with_reducible refine sat_brF ?_ ?_); rfl; conv => arg 3; whnf) | ((with_reducible refine sat_eqv ?_ ?_); rfl; conv => arg 3; whnf))
      refine sat_idx (x.t f) (by omega) (by rw [Int.toNat_natCast, List.getElem?_map, hg]; rfl) ?_
      (conv => arg 3; whnf); repeat (first | ((with_reducible refine sat_brT ?_ ?_); rfl; conv => arg 3; whnf) | ((with_reducible refine sat_brF ?_ ?_); rfl; conv => arg 3; whnf) | ((with_reducible refine sat_eqv ?_ ?_); rfl; conv => arg 3; whnf))
      refine sat_call (r_ownC x.cmd hx1) ?_
      rintro r H' ⟨rfl, rfl⟩
      (conv => arg 3; whnf); repeat (first | ((with_reducible refine sat_brT ?_ ?_); rfl; conv => arg 3; whnf) | ((with_reducible refine sat_brF ?_ ?_); rfl; conv => arg 3; whnf) | ((with_reducible refine sat_eqv ?_ ?_); rfl; conv => arg 3; whnf))
      repeat (refine sat_idx (x.t f) (by omega) (by rw [Int.toNat_natCast, List.getElem?_map, hg]; rfl) ?_; (conv => arg 3; whnf); repeat (first | ((with_reducible refine sat_brT ?_ ?_); rfl; conv => arg 3; whnf) | ((with_reducible refine sat_brF ?_ ?_); rfl; conv => arg 3; whnf) | ((with_reducible refine sat_eqv ?_ ?_); rfl; conv => arg 3; whnf)))
      rw [List.drop_zero, List.take_length]
      have hti : (m.es.take i).length ≤ 2 ^ 30 := by rw [List.length_take]; omega
      refine sat_asrt (by simp) ?_
      refine sat_asrt (by simp only [roomy, List.length_cons, List.length_nil, decide_eq_true_eq]; omega) ?_
      refine sat_brT (by simp) ?_
      (conv => arg 3; whnf); repeat (first | ((with_reducible refine sat_brT ?_ ?_); rfl; conv => arg 3; whnf) | ((with_reducible refine sat_brF ?_ ?_); rfl; conv => arg 3; whnf) | ((with_reducible refine sat_eqv ?_ ?_); rfl; conv => arg 3; whnf))
      refine sat_rng (wrap64 (by omega) (by omega)) ?_
      have e1 : (m.es.take i).map ownT ++ [x.t false] = (m.es.take (i + 1)).map ownT := by rw [take_succ_get hg, List.map_append]; rfl
      refine sat_ret ⟨⟨i + 1, by omega⟩, ?_, ?_, by show m.es.length - (i + 1) < m.es.length - i; omega⟩
      · show [(1, pt 0), (2, pt 1), (3, AV.sl 2 0 [] 0 ((m.es.take i).map ownT ++ [x.t false]).length none), (4, ti ((i : Int) + 1))] = _
        rw [e1, List.length_map]; rfl
      · show [AO.var m.av, AO.var (.t zMt), AO.row 40 ((m.es.take i).map ownT ++ [x.t false])] = _
        rw [e1]
    · have h : ¬ i < m.es.length := by have := of_decide_eq_false h; rw [List.length_map] at this; omega
      have htk : m.es.take i = m.es := List.take_of_length_le (by omega)
      (conv => arg 3; whnf); repeat (first | ((with_reducible refine sat_brT ?_ ?_); rfl; conv => arg 3; whnf) | ((with_reducible refine sat_brF ?_ ?_); rfl; conv => arg 3; whnf) | ((with_reducible refine sat_eqv ?_ ?_); rfl; conv => arg 3; whnf))
      rw [htk]
      exact sat_ret ⟨rfl, rfl, rfl⟩
  · rintro ex fr' H' ⟨rfl, rfl, rfl⟩
    (conv => arg 3; whnf); repeat (first | ((with_reducible refine sat_brT ?_ ?_); rfl; conv => arg 3; whnf) | ((with_reducible refine sat_brF ?_ ?_); rfl; conv => arg 3; whnf) | ((with_reducible refine sat_eqv ?_ ?_); rfl; conv => arg 3; whnf))
    refine sat_asrt (by first | rfl | (simp; done) | (simp; omega)) ?_
    refine sat_asrt (by simp [roomy]; omega) ?_
    (conv => arg 3; whnf); repeat (first | ((with_reducible refine sat_brT ?_ ?_); rfl; conv => arg 3; whnf) | ((with_reducible refine sat_brF ?_ ?_); rfl; conv => arg 3; whnf) | ((with_reducible refine sat_eqv ?_ ?_); rfl; conv => arg 3; whnf))
    exact sat_ret ⟨by simp, by simp⟩
/-- How large a message is. -/
def tot (es : List (En × Bool)) : Nat := (es.map fun p => 80 + p.1.cmd.data.length).sum
theorem tot_append (a b : List (En × Bool)) : tot (a ++ b) = tot a + tot b := by simp [tot]
structure HuSt (m : Ms) where
  i : Nat
  n : Nat
  eq : n = m.data.length + tot (m.es.take i)
  le : i ≤ m.es.length
  b : n ≤ 2 ^ 52
theorem k_huge (m : Ms) (hd : m.data.length ≤ 2 ^ 51) (hl : m.es.length ≤ 2 ^ 50) (he : ∀ p ∈ m.es, p.1.cmd.data.length ≤ 2 ^ 51) : ACalls PP GG F.law20_huge [m.av] [] fun r H' => ∃ q, r = tb q ∧ (q = false → m.data.length + tot m.es ≤ 300000) ∧ H' = [] := by
  refine K.law20_huge.callsC rfl ?_
  (conv => arg 3; whnf); repeat (first | ((with_reducible refine sat_brT ?_ ?_); rfl; conv => arg 3; whnf) | ((with_reducible refine sat_brF ?_ ?_); rfl; conv => arg 3; whnf) | ((with_reducible refine sat_eqv ?_ ?_); rfl; conv => arg 3; whnf))
  refine sat_loopOf mkX_ops (σ := HuSt m) (fun x => [(1, pt 0), (3, ti x.n), (4, ti x.i)]) (fun x => [.var m.av]) (fun x => m.es.length - x.i)
    (fun ex fr' H' => ∃ n : Nat, H' = [.var m.av] ∧ ex = .exit 0 ∧ fr' = [(3, ti n)] ∧ (n ≤ 300000 → m.data.length + tot m.es ≤ 300000)) ⟨0, m.data.length, by simp [tot], Nat.zero_le _, by omega⟩ ?_ ?_
  · rintro ⟨i, n, heq, hi, hb⟩
    dsimp only
    (conv => arg 3; whnf); repeat (first | ((with_reducible refine sat_brT ?_ ?_); rfl; conv => arg 3; whnf) | ((with_reducible refine sat_brF ?_ ?_); rfl; conv => arg 3; whnf) | ((with_reducible refine sat_eqv ?_ ?_); rfl; conv => arg 3; whnf))
    refine sat_br (fun h => ?_) (fun h => ?_)
    · have h : i < m.es.length := by have := of_decide_eq_true h; rw [List.length_map] at this; omega
      have hg : m.es[i]? = some m.es[i] := List.getElem?_eq_getElem h
      generalize hx : m.es[i] = p at *
      obtain ⟨x, f⟩ := p
      have hx1 : x.cmd.data.length ≤ 2 ^ 51 := he _ (List.mem_of_getElem? hg)
      (conv => arg 3; whnf); repeat (first | ((with_reducible refine sat_brT ?_ ?_); rfl; conv => arg 3; whnf) | ((with_reducible refine sat_brF ?_ ?_); rfl; conv => arg 3; whnf) | ((with_reducible refine sat_eqv ?_ ?_); rfl; conv => arg 3; whnf))
      refine sat_br (fun h2 => ?_) (fun h2 => ?_)
      · have h2 := of_decide_eq_true h2
        (conv => arg 3; whnf); repeat (first | ((with_reducible refine sat_brT ?_ ?_); rfl; conv => arg 3; whnf) | ((with_reducible refine sat_brF ?_ ?_); rfl; conv => arg 3; whnf) | ((with_reducible refine sat_eqv ?_ ?_); rfl; conv => arg 3; whnf))
        refine sat_rng (wrap64 (by omega) (by omega)) ?_
        (conv => arg 3; whnf); repeat (first | ((with_reducible refine sat_brT ?_ ?_); rfl; conv => arg 3; whnf) | ((with_reducible refine sat_brF ?_ ?_); rfl; conv => arg 3; whnf) | ((with_reducible refine sat_eqv ?_ ?_); rfl; conv => arg 3; whnf))
        refine sat_idx (x.t f) (by omega) (by rw [Int.toNat_natCast, List.getElem?_map, hg]; rfl) ?_
        (conv => arg 3; whnf); repeat (first | ((with_reducible refine sat_brT ?_ ?_); rfl; conv => arg 3; whnf) | ((with_reducible refine sat_brF ?_ ?_); rfl; conv => arg 3; whnf) | ((with_reducible refine sat_eqv ?_ ?_); rfl; conv => arg 3; whnf))
        refine sat_rng (wrap64 (by omega) (by omega)) ?_
        (conv => arg 3; whnf); repeat (first | ((with_reducible refine sat_brT ?_ ?_); rfl; conv => arg 3; whnf) | ((with_reducible refine sat_brF ?_ ?_); rfl; conv => arg 3; whnf) | ((with_reducible refine sat_eqv ?_ ?_); rfl; conv => arg 3; whnf))
        refine sat_rng (wrap64 (by omega) (by omega)) ?_
        refine sat_ret ⟨⟨i + 1, n + 80 + x.cmd.data.length, ?_, by omega, by omega⟩, rfl, rfl, by show m.es.length - (i + 1) < m.es.length - i; omega⟩
        rw [take_succ_get hg, tot_append, show tot [(x, f)] = 80 + x.cmd.data.length by simp [tot]]
        omega
      · have h2 := of_decide_eq_false h2
        (conv => arg 3; whnf); repeat (first | ((with_reducible refine sat_brT ?_ ?_); rfl; conv => arg 3; whnf) | ((with_reducible refine sat_brF ?_ ?_); rfl; conv => arg 3; whnf) | ((with_reducible refine sat_eqv ?_ ?_); rfl; conv => arg 3; whnf))
        exact sat_ret ⟨n, rfl, rfl, rfl, fun h3 => by omega⟩
    · have h : ¬ i < m.es.length := by have := of_decide_eq_false h; rw [List.length_map] at this; omega
      rw [List.take_of_length_le (by omega)] at heq
      (conv => arg 3; whnf); repeat (first | ((with_reducible refine sat_brT ?_ ?_); rfl; conv => arg 3; whnf) | ((with_reducible refine sat_brF ?_ ?_); rfl; conv => arg 3; whnf) | ((with_reducible refine sat_eqv ?_ ?_); rfl; conv => arg 3; whnf))
      exact sat_ret ⟨n, rfl, rfl, rfl, fun h3 => by omega⟩
  · rintro ex fr' H' ⟨n, rfl, rfl, rfl, hn⟩
    (conv => arg 3; whnf); repeat (first | ((with_reducible refine sat_brT ?_ ?_); rfl; conv => arg 3; whnf) | ((with_reducible refine sat_brF ?_ ?_); rfl; conv => arg 3; whnf) | ((with_reducible refine sat_eqv ?_ ?_); rfl; conv => arg 3; whnf))
    refine sat_ret ⟨_, rfl, ?_, rfl⟩
    intro hq
    have hq := of_decide_eq_false hq
    exact hn (by omega)
end Stk
