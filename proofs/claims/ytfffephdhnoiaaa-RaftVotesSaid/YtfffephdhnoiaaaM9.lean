/- Which messages may be. -/
import Derived.Test.YtfffephdhnoiaaaM8
namespace Stk
open Go
set_option maxRecDepth 100000
set_option linter.unusedSimpArgs false
set_option linter.unusedVariables false
set_option maxHeartbeats 4000000
abbrev maxT : Int := 1099511627776
structure Nd.May (n : Nd) (m : Mi) : Prop where
  kind : 1 ≤ m.kind ∧ m.kind ≤ 4
  to : m.to = n.me
  frm : 1 ≤ m.frm ∧ m.frm ≤ n.sv
  ne : m.frm ≠ n.me
  term : 1 ≤ m.term ∧ m.term ≤ 1099511627776
  index : 0 ≤ m.index ∧ m.index ≤ 1099511627776
  prev : 0 ≤ m.prev ∧ m.prev ≤ 1099511627776
  commit : 0 ≤ m.commit ∧ m.commit ≤ 1099511627776
  es : m.kind = 3 → m.es.length ≤ 8 ∧ termsOK m.es m.prev m.term = true
abbrev Mi.n3 (m : Mi) : List Int := [m.index, m.prev, m.commit]
structure MySt (m : Mi) where
  i : Nat
  hi : i ≤ 3
  h : ∀ j v, j < i → m.n3[j]? = some v → 0 ≤ v ∧ v ≤ 1099511627776
theorem k_may (n : Nd) (cap : Option Nat) (xs : List Tr) (m : Mi) (hk : 0 ≤ m.kind ∧ m.kind ≤ 255) :
    ACalls PP GG F.raft_Node_may [pt 0, m.l] (n.H cap xs) fun r H' => ∃ q, r = tb q ∧ (q = true ↔ n.May m) ∧ H' = n.H cap xs := by
  have kr := fun hl => k_right m.es m.prev m.term hl
  rcases n with ⟨me, sv, term, vote, role, lead, commit, left, log, _ | ks, nxt, mat⟩
  · refine K.raft_Node_may.callsQ rfl ?_
    (conv => arg 3; whnf); repeat ((first | (with_reducible apply sT); rfl | (with_reducible apply sF); rfl | (with_reducible apply sE); rfl); conv => arg 3; whnf)
    refine sat_br (fun h1 => ?_) (fun h1 => ?_)
    · (conv => arg 3; whnf); repeat ((first | (with_reducible apply sT); rfl | (with_reducible apply sF); rfl | (with_reducible apply sE); rfl); conv => arg 3; whnf)
      exact sat_ret ⟨false, rfl, ⟨fun h => (by cases h), fun h => (by have := h.kind; simp at h1; (try dsimp only at this); omega)⟩, rfl⟩
    have a1 : 1 ≤ m.kind := by simp at h1; omega
    (conv => arg 3; whnf); repeat ((first | (with_reducible apply sT); rfl | (with_reducible apply sF); rfl | (with_reducible apply sE); rfl); conv => arg 3; whnf)
    refine sat_br (fun h1 => ?_) (fun h1 => ?_)
    · (conv => arg 3; whnf); repeat ((first | (with_reducible apply sT); rfl | (with_reducible apply sF); rfl | (with_reducible apply sE); rfl); conv => arg 3; whnf)
      exact sat_ret ⟨false, rfl, ⟨fun h => (by cases h), fun h => (by have := h.kind; simp at h1; (try dsimp only at this); omega)⟩, rfl⟩
    have a2 : m.kind ≤ 4 := by simp at h1; omega
    (conv => arg 3; whnf); repeat ((first | (with_reducible apply sT); rfl | (with_reducible apply sF); rfl | (with_reducible apply sE); rfl); conv => arg 3; whnf)
    refine sat_br (fun h1 => ?_) (fun h1 => ?_)
    · (conv => arg 3; whnf); repeat ((first | (with_reducible apply sT); rfl | (with_reducible apply sF); rfl | (with_reducible apply sE); rfl); conv => arg 3; whnf)
      exact sat_ret ⟨false, rfl, ⟨fun h => (by cases h), fun h => (by have := h.to; simp at h1; (try dsimp only at this); omega)⟩, rfl⟩
    have a3 : m.to = me := by simp at h1; omega
    (conv => arg 3; whnf); repeat ((first | (with_reducible apply sT); rfl | (with_reducible apply sF); rfl | (with_reducible apply sE); rfl); conv => arg 3; whnf)
    refine sat_br (fun h1 => ?_) (fun h1 => ?_)
    · (conv => arg 3; whnf); repeat ((first | (with_reducible apply sT); rfl | (with_reducible apply sF); rfl | (with_reducible apply sE); rfl); conv => arg 3; whnf)
      exact sat_ret ⟨false, rfl, ⟨fun h => (by cases h), fun h => (by have := h.frm; simp at h1; (try dsimp only at this); omega)⟩, rfl⟩
    have a4 : 1 ≤ m.frm := by simp at h1; omega
    (conv => arg 3; whnf); repeat ((first | (with_reducible apply sT); rfl | (with_reducible apply sF); rfl | (with_reducible apply sE); rfl); conv => arg 3; whnf)
    refine sat_br (fun h1 => ?_) (fun h1 => ?_)
    · (conv => arg 3; whnf); repeat ((first | (with_reducible apply sT); rfl | (with_reducible apply sF); rfl | (with_reducible apply sE); rfl); conv => arg 3; whnf)
      exact sat_ret ⟨false, rfl, ⟨fun h => (by cases h), fun h => (by have := h.frm; simp at h1; (try dsimp only at this); omega)⟩, rfl⟩
    have a5 : m.frm ≤ sv := by simp at h1; omega
    (conv => arg 3; whnf); repeat ((first | (with_reducible apply sT); rfl | (with_reducible apply sF); rfl | (with_reducible apply sE); rfl); conv => arg 3; whnf)
    refine sat_br (fun h1 => ?_) (fun h1 => ?_)
    · (conv => arg 3; whnf); repeat ((first | (with_reducible apply sT); rfl | (with_reducible apply sF); rfl | (with_reducible apply sE); rfl); conv => arg 3; whnf)
      exact sat_ret ⟨false, rfl, ⟨fun h => (by cases h), fun h => (by have := h.ne; simp at h1; (try dsimp only at this); omega)⟩, rfl⟩
    have a6 : m.frm ≠ me := by simp at h1; omega
    (conv => arg 3; whnf); repeat ((first | (with_reducible apply sT); rfl | (with_reducible apply sF); rfl | (with_reducible apply sE); rfl); conv => arg 3; whnf)
    refine sat_br (fun h1 => ?_) (fun h1 => ?_)
    · (conv => arg 3; whnf); repeat ((first | (with_reducible apply sT); rfl | (with_reducible apply sF); rfl | (with_reducible apply sE); rfl); conv => arg 3; whnf)
      exact sat_ret ⟨false, rfl, ⟨fun h => (by cases h), fun h => (by have := h.term; simp at h1; (try dsimp only at this); omega)⟩, rfl⟩
    have a7 : 1 ≤ m.term := by simp at h1; omega
    (conv => arg 3; whnf); repeat ((first | (with_reducible apply sT); rfl | (with_reducible apply sF); rfl | (with_reducible apply sE); rfl); conv => arg 3; whnf)
    refine sat_br (fun h1 => ?_) (fun h1 => ?_)
    · (conv => arg 3; whnf); repeat ((first | (with_reducible apply sT); rfl | (with_reducible apply sF); rfl | (with_reducible apply sE); rfl); conv => arg 3; whnf)
      exact sat_ret ⟨false, rfl, ⟨fun h => (by cases h), fun h => (by have := h.term; simp at h1; (try dsimp only at this); omega)⟩, rfl⟩
    have a8 : m.term ≤ 1099511627776 := by simp at h1; omega
    (conv => arg 3; whnf); repeat ((first | (with_reducible apply sT); rfl | (with_reducible apply sF); rfl | (with_reducible apply sE); rfl); conv => arg 3; whnf)
    refine sat_loopOf mkX_ops (σ := MySt m) (fun x => [(3, pt 0), (63, .sl 1 0 [] 0 3 (some 3)), (64, ti 3), (65, ti (x.i : Int))]) (fun _ => [.var m.l, .row 1 (iT m.n3)]) (fun x => 3 - x.i)
      (fun ex fr' H' => H' = [.var m.l, .row 1 (iT m.n3)] ∧ ((ex = .ret ∧ fr' = [(3, pt 0), (4, tb false)] ∧ ¬ ((0 ≤ m.index ∧ m.index ≤ 1099511627776) ∧ (0 ≤ m.prev ∧ m.prev ≤ 1099511627776) ∧ (0 ≤ m.commit ∧ m.commit ≤ 1099511627776))) ∨
        (ex = .exit 0 ∧ fr' = [(3, pt 0), (4, .undef)] ∧ ((0 ≤ m.index ∧ m.index ≤ 1099511627776) ∧ (0 ≤ m.prev ∧ m.prev ≤ 1099511627776) ∧ (0 ≤ m.commit ∧ m.commit ≤ 1099511627776))))) ⟨0, by omega, fun j v hj => by omega⟩ ?_ ?_
    · rintro ⟨i, hi, hv⟩
      dsimp only
      (conv => arg 3; whnf); repeat ((first | (with_reducible apply sT); rfl | (with_reducible apply sF); rfl | (with_reducible apply sE); rfl); conv => arg 3; whnf)
      refine sat_br (fun h1 => ?_) (fun h1 => ?_)
      · have h1 : (i : Int) < 3 := of_decide_eq_true h1
        have hu : m.n3[i]? = some (m.n3[i]'(by simp; omega)) := List.getElem?_eq_getElem _
        generalize m.n3[i]'(by simp; omega) = u at hu
        have hn : ∀ (P : Int → Prop), P m.index → P m.prev → P m.commit → P u := fun P p1 p2 p3 => by
          have := List.mem_of_getElem? hu
          simp at this
          rcases this with rfl | rfl | rfl <;> assumption
        (conv => arg 3; whnf); repeat ((first | (with_reducible apply sT); rfl | (with_reducible apply sF); rfl | (with_reducible apply sE); rfl); conv => arg 3; whnf)
        refine sat_asrt (by simp; omega) ?_
        (conv => arg 3; whnf); repeat ((first | (with_reducible apply sT); rfl | (with_reducible apply sF); rfl | (with_reducible apply sE); rfl); conv => arg 3; whnf)
        refine sat_idx (i6 u) (by omega) (by rw [Int.toNat_natCast, Nat.zero_add, Int.toNat_natCast, List.getElem?_map, hu]; rfl) ?_
        (conv => arg 3; whnf); repeat ((first | (with_reducible apply sT); rfl | (with_reducible apply sF); rfl | (with_reducible apply sE); rfl); conv => arg 3; whnf)
        refine sat_br (fun h2 => ?_) (fun h2 => ?_)
        · have h2 : u < 0 := of_decide_eq_true h2
          (conv => arg 3; whnf); repeat ((first | (with_reducible apply sT); rfl | (with_reducible apply sF); rfl | (with_reducible apply sE); rfl); conv => arg 3; whnf)
          exact sat_ret ⟨rfl, .inl ⟨rfl, rfl, fun ⟨p1, p2, p3⟩ => by have := hn (fun u => 0 ≤ u) p1.1 p2.1 p3.1; try omega⟩⟩
        · have h2 : ¬ u < 0 := of_decide_eq_false h2
          (conv => arg 3; whnf); repeat ((first | (with_reducible apply sT); rfl | (with_reducible apply sF); rfl | (with_reducible apply sE); rfl); conv => arg 3; whnf)
          refine sat_br (fun h3 => ?_) (fun h3 => ?_)
          · have h3 : u > 1099511627776 := of_decide_eq_true h3
            (conv => arg 3; whnf); repeat ((first | (with_reducible apply sT); rfl | (with_reducible apply sF); rfl | (with_reducible apply sE); rfl); conv => arg 3; whnf)
            exact sat_ret ⟨rfl, .inl ⟨rfl, rfl, fun ⟨p1, p2, p3⟩ => by have := hn (fun u => u ≤ 1099511627776) p1.2 p2.2 p3.2; try omega⟩⟩
          · have h3 : ¬ u > 1099511627776 := of_decide_eq_false h3
            (conv => arg 3; whnf); repeat ((first | (with_reducible apply sT); rfl | (with_reducible apply sF); rfl | (with_reducible apply sE); rfl); conv => arg 3; whnf)
            refine sat_rng (wrap64 (by omega) (by omega)) ?_
            refine sat_ret ⟨⟨i + 1, by omega, fun j v hj he => ?_⟩, rfl, rfl, by show 3 - (i + 1) < 3 - i; omega⟩
            rcases Nat.lt_or_ge j i with h4 | h4
            · exact hv j v h4 he
            · have : j = i := by omega
              subst this
              rw [hu] at he
              obtain rfl := Option.some.inj he
              omega
      · have h1 : ¬ (i : Int) < 3 := of_decide_eq_false h1
        have : i = 3 := by omega
        subst this
        (conv => arg 3; whnf); repeat ((first | (with_reducible apply sT); rfl | (with_reducible apply sF); rfl | (with_reducible apply sE); rfl); conv => arg 3; whnf)
        exact sat_ret ⟨rfl, .inr ⟨rfl, rfl, hv 0 _ (by omega) rfl, hv 1 _ (by omega) rfl, hv 2 _ (by omega) rfl⟩⟩
    · rintro ex fr' H' ⟨rfl, ⟨rfl, rfl, hh⟩ | ⟨rfl, rfl, p1, p2, p3⟩⟩
      · (conv => arg 3; whnf); repeat ((first | (with_reducible apply sT); rfl | (with_reducible apply sF); rfl | (with_reducible apply sE); rfl); conv => arg 3; whnf)
        exact sat_ret ⟨false, rfl, ⟨fun h => (by cases h), fun h => absurd ⟨h.index, h.prev, h.commit⟩ hh⟩, rfl⟩
      · (conv => arg 3; whnf); repeat ((first | (with_reducible apply sT); rfl | (with_reducible apply sF); rfl | (with_reducible apply sE); rfl); conv => arg 3; whnf)
        refine sat_br (fun h1 => ?_) (fun h1 => ?_)
        · have h1 : m.kind ≠ 3 := by simpa using h1
          (conv => arg 3; whnf); repeat ((first | (with_reducible apply sT); rfl | (with_reducible apply sF); rfl | (with_reducible apply sE); rfl); conv => arg 3; whnf)
          exact sat_ret ⟨true, rfl, ⟨fun _ => ⟨⟨a1, a2⟩, a3, ⟨a4, a5⟩, a6, ⟨a7, a8⟩, p1, p2, p3, fun h => absurd h h1⟩, fun _ => rfl⟩, rfl⟩
        · have h1 : m.kind = 3 := by simpa using h1
          (conv => arg 3; whnf); repeat ((first | (with_reducible apply sT); rfl | (with_reducible apply sF); rfl | (with_reducible apply sE); rfl); conv => arg 3; whnf)
          rw [show (esT m.es).length = m.es.length by simp]
          refine sat_br (fun h2 => ?_) (fun h2 => ?_)
          · have h2 : m.es.length ≤ 8 := by have := of_decide_eq_true h2; omega
            (conv => arg 3; whnf); repeat ((first | (with_reducible apply sT); rfl | (with_reducible apply sF); rfl | (with_reducible apply sE); rfl); conv => arg 3; whnf)
            refine sat_call (kr (by omega)) ?_
            rintro r H' ⟨rfl, rfl⟩
            (conv => arg 3; whnf); repeat ((first | (with_reducible apply sT); rfl | (with_reducible apply sF); rfl | (with_reducible apply sE); rfl); conv => arg 3; whnf)
            refine sat_ret ⟨termsOK m.es m.prev m.term, rfl, ⟨fun h => ⟨⟨a1, a2⟩, a3, ⟨a4, a5⟩, a6, ⟨a7, a8⟩, p1, p2, p3, fun _ => ⟨h2, h⟩⟩, fun h => (h.es h1).2⟩, rfl⟩
          · have h2 : ¬ m.es.length ≤ 8 := by have := of_decide_eq_false h2; omega
            (conv => arg 3; whnf); repeat ((first | (with_reducible apply sT); rfl | (with_reducible apply sF); rfl | (with_reducible apply sE); rfl); conv => arg 3; whnf)
            refine sat_ret ⟨false, rfl, ⟨fun h => (by cases h), fun h => absurd (h.es h1).1 h2⟩, rfl⟩
  · refine K.raft_Node_may.callsQ rfl ?_
    (conv => arg 3; whnf); repeat ((first | (with_reducible apply sT); rfl | (with_reducible apply sF); rfl | (with_reducible apply sE); rfl); conv => arg 3; whnf)
    refine sat_br (fun h1 => ?_) (fun h1 => ?_)
    · (conv => arg 3; whnf); repeat ((first | (with_reducible apply sT); rfl | (with_reducible apply sF); rfl | (with_reducible apply sE); rfl); conv => arg 3; whnf)
      exact sat_ret ⟨false, rfl, ⟨fun h => (by cases h), fun h => (by have := h.kind; simp at h1; (try dsimp only at this); omega)⟩, rfl⟩
    have a1 : 1 ≤ m.kind := by simp at h1; omega
    (conv => arg 3; whnf); repeat ((first | (with_reducible apply sT); rfl | (with_reducible apply sF); rfl | (with_reducible apply sE); rfl); conv => arg 3; whnf)
    refine sat_br (fun h1 => ?_) (fun h1 => ?_)
    · (conv => arg 3; whnf); repeat ((first | (with_reducible apply sT); rfl | (with_reducible apply sF); rfl | (with_reducible apply sE); rfl); conv => arg 3; whnf)
      exact sat_ret ⟨false, rfl, ⟨fun h => (by cases h), fun h => (by have := h.kind; simp at h1; (try dsimp only at this); omega)⟩, rfl⟩
    have a2 : m.kind ≤ 4 := by simp at h1; omega
    (conv => arg 3; whnf); repeat ((first | (with_reducible apply sT); rfl | (with_reducible apply sF); rfl | (with_reducible apply sE); rfl); conv => arg 3; whnf)
    refine sat_br (fun h1 => ?_) (fun h1 => ?_)
    · (conv => arg 3; whnf); repeat ((first | (with_reducible apply sT); rfl | (with_reducible apply sF); rfl | (with_reducible apply sE); rfl); conv => arg 3; whnf)
      exact sat_ret ⟨false, rfl, ⟨fun h => (by cases h), fun h => (by have := h.to; simp at h1; (try dsimp only at this); omega)⟩, rfl⟩
    have a3 : m.to = me := by simp at h1; omega
    (conv => arg 3; whnf); repeat ((first | (with_reducible apply sT); rfl | (with_reducible apply sF); rfl | (with_reducible apply sE); rfl); conv => arg 3; whnf)
    refine sat_br (fun h1 => ?_) (fun h1 => ?_)
    · (conv => arg 3; whnf); repeat ((first | (with_reducible apply sT); rfl | (with_reducible apply sF); rfl | (with_reducible apply sE); rfl); conv => arg 3; whnf)
      exact sat_ret ⟨false, rfl, ⟨fun h => (by cases h), fun h => (by have := h.frm; simp at h1; (try dsimp only at this); omega)⟩, rfl⟩
    have a4 : 1 ≤ m.frm := by simp at h1; omega
    (conv => arg 3; whnf); repeat ((first | (with_reducible apply sT); rfl | (with_reducible apply sF); rfl | (with_reducible apply sE); rfl); conv => arg 3; whnf)
    refine sat_br (fun h1 => ?_) (fun h1 => ?_)
    · (conv => arg 3; whnf); repeat ((first | (with_reducible apply sT); rfl | (with_reducible apply sF); rfl | (with_reducible apply sE); rfl); conv => arg 3; whnf)
      exact sat_ret ⟨false, rfl, ⟨fun h => (by cases h), fun h => (by have := h.frm; simp at h1; (try dsimp only at this); omega)⟩, rfl⟩
    have a5 : m.frm ≤ sv := by simp at h1; omega
    (conv => arg 3; whnf); repeat ((first | (with_reducible apply sT); rfl | (with_reducible apply sF); rfl | (with_reducible apply sE); rfl); conv => arg 3; whnf)
    refine sat_br (fun h1 => ?_) (fun h1 => ?_)
    · (conv => arg 3; whnf); repeat ((first | (with_reducible apply sT); rfl | (with_reducible apply sF); rfl | (with_reducible apply sE); rfl); conv => arg 3; whnf)
      exact sat_ret ⟨false, rfl, ⟨fun h => (by cases h), fun h => (by have := h.ne; simp at h1; (try dsimp only at this); omega)⟩, rfl⟩
    have a6 : m.frm ≠ me := by simp at h1; omega
    (conv => arg 3; whnf); repeat ((first | (with_reducible apply sT); rfl | (with_reducible apply sF); rfl | (with_reducible apply sE); rfl); conv => arg 3; whnf)
    refine sat_br (fun h1 => ?_) (fun h1 => ?_)
    · (conv => arg 3; whnf); repeat ((first | (with_reducible apply sT); rfl | (with_reducible apply sF); rfl | (with_reducible apply sE); rfl); conv => arg 3; whnf)
      exact sat_ret ⟨false, rfl, ⟨fun h => (by cases h), fun h => (by have := h.term; simp at h1; (try dsimp only at this); omega)⟩, rfl⟩
    have a7 : 1 ≤ m.term := by simp at h1; omega
    (conv => arg 3; whnf); repeat ((first | (with_reducible apply sT); rfl | (with_reducible apply sF); rfl | (with_reducible apply sE); rfl); conv => arg 3; whnf)
    refine sat_br (fun h1 => ?_) (fun h1 => ?_)
    · (conv => arg 3; whnf); repeat ((first | (with_reducible apply sT); rfl | (with_reducible apply sF); rfl | (with_reducible apply sE); rfl); conv => arg 3; whnf)
      exact sat_ret ⟨false, rfl, ⟨fun h => (by cases h), fun h => (by have := h.term; simp at h1; (try dsimp only at this); omega)⟩, rfl⟩
    have a8 : m.term ≤ 1099511627776 := by simp at h1; omega
    (conv => arg 3; whnf); repeat ((first | (with_reducible apply sT); rfl | (with_reducible apply sF); rfl | (with_reducible apply sE); rfl); conv => arg 3; whnf)
    refine sat_loopOf mkX_ops (σ := MySt m) (fun x => [(3, pt 0), (63, .sl 1 0 [] 0 3 (some 3)), (64, ti 3), (65, ti (x.i : Int))]) (fun _ => [.var m.l, .row 1 (iT m.n3)]) (fun x => 3 - x.i)
      (fun ex fr' H' => H' = [.var m.l, .row 1 (iT m.n3)] ∧ ((ex = .ret ∧ fr' = [(3, pt 0), (4, tb false)] ∧ ¬ ((0 ≤ m.index ∧ m.index ≤ 1099511627776) ∧ (0 ≤ m.prev ∧ m.prev ≤ 1099511627776) ∧ (0 ≤ m.commit ∧ m.commit ≤ 1099511627776))) ∨
        (ex = .exit 0 ∧ fr' = [(3, pt 0), (4, .undef)] ∧ ((0 ≤ m.index ∧ m.index ≤ 1099511627776) ∧ (0 ≤ m.prev ∧ m.prev ≤ 1099511627776) ∧ (0 ≤ m.commit ∧ m.commit ≤ 1099511627776))))) ⟨0, by omega, fun j v hj => by omega⟩ ?_ ?_
    · rintro ⟨i, hi, hv⟩
      dsimp only
      (conv => arg 3; whnf); repeat ((first | (with_reducible apply sT); rfl | (with_reducible apply sF); rfl | (with_reducible apply sE); rfl); conv => arg 3; whnf)
      refine sat_br (fun h1 => ?_) (fun h1 => ?_)
      · have h1 : (i : Int) < 3 := of_decide_eq_true h1
        have hu : m.n3[i]? = some (m.n3[i]'(by simp; omega)) := List.getElem?_eq_getElem _
        generalize m.n3[i]'(by simp; omega) = u at hu
        have hn : ∀ (P : Int → Prop), P m.index → P m.prev → P m.commit → P u := fun P p1 p2 p3 => by
          have := List.mem_of_getElem? hu
          simp at this
          rcases this with rfl | rfl | rfl <;> assumption
        (conv => arg 3; whnf); repeat ((first | (with_reducible apply sT); rfl | (with_reducible apply sF); rfl | (with_reducible apply sE); rfl); conv => arg 3; whnf)
        refine sat_asrt (by simp; omega) ?_
        (conv => arg 3; whnf); repeat ((first | (with_reducible apply sT); rfl | (with_reducible apply sF); rfl | (with_reducible apply sE); rfl); conv => arg 3; whnf)
        refine sat_idx (i6 u) (by omega) (by rw [Int.toNat_natCast, Nat.zero_add, Int.toNat_natCast, List.getElem?_map, hu]; rfl) ?_
        (conv => arg 3; whnf); repeat ((first | (with_reducible apply sT); rfl | (with_reducible apply sF); rfl | (with_reducible apply sE); rfl); conv => arg 3; whnf)
        refine sat_br (fun h2 => ?_) (fun h2 => ?_)
        · have h2 : u < 0 := of_decide_eq_true h2
          (conv => arg 3; whnf); repeat ((first | (with_reducible apply sT); rfl | (with_reducible apply sF); rfl | (with_reducible apply sE); rfl); conv => arg 3; whnf)
          exact sat_ret ⟨rfl, .inl ⟨rfl, rfl, fun ⟨p1, p2, p3⟩ => by have := hn (fun u => 0 ≤ u) p1.1 p2.1 p3.1; try omega⟩⟩
        · have h2 : ¬ u < 0 := of_decide_eq_false h2
          (conv => arg 3; whnf); repeat ((first | (with_reducible apply sT); rfl | (with_reducible apply sF); rfl | (with_reducible apply sE); rfl); conv => arg 3; whnf)
          refine sat_br (fun h3 => ?_) (fun h3 => ?_)
          · have h3 : u > 1099511627776 := of_decide_eq_true h3
            (conv => arg 3; whnf); repeat ((first | (with_reducible apply sT); rfl | (with_reducible apply sF); rfl | (with_reducible apply sE); rfl); conv => arg 3; whnf)
            exact sat_ret ⟨rfl, .inl ⟨rfl, rfl, fun ⟨p1, p2, p3⟩ => by have := hn (fun u => u ≤ 1099511627776) p1.2 p2.2 p3.2; try omega⟩⟩
          · have h3 : ¬ u > 1099511627776 := of_decide_eq_false h3
            (conv => arg 3; whnf); repeat ((first | (with_reducible apply sT); rfl | (with_reducible apply sF); rfl | (with_reducible apply sE); rfl); conv => arg 3; whnf)
            refine sat_rng (wrap64 (by omega) (by omega)) ?_
            refine sat_ret ⟨⟨i + 1, by omega, fun j v hj he => ?_⟩, rfl, rfl, by show 3 - (i + 1) < 3 - i; omega⟩
            rcases Nat.lt_or_ge j i with h4 | h4
            · exact hv j v h4 he
            · have : j = i := by omega
              subst this
              rw [hu] at he
              obtain rfl := Option.some.inj he
              omega
      · have h1 : ¬ (i : Int) < 3 := of_decide_eq_false h1
        have : i = 3 := by omega
        subst this
        (conv => arg 3; whnf); repeat ((first | (with_reducible apply sT); rfl | (with_reducible apply sF); rfl | (with_reducible apply sE); rfl); conv => arg 3; whnf)
        exact sat_ret ⟨rfl, .inr ⟨rfl, rfl, hv 0 _ (by omega) rfl, hv 1 _ (by omega) rfl, hv 2 _ (by omega) rfl⟩⟩
    · rintro ex fr' H' ⟨rfl, ⟨rfl, rfl, hh⟩ | ⟨rfl, rfl, p1, p2, p3⟩⟩
      · (conv => arg 3; whnf); repeat ((first | (with_reducible apply sT); rfl | (with_reducible apply sF); rfl | (with_reducible apply sE); rfl); conv => arg 3; whnf)
        exact sat_ret ⟨false, rfl, ⟨fun h => (by cases h), fun h => absurd ⟨h.index, h.prev, h.commit⟩ hh⟩, rfl⟩
      · (conv => arg 3; whnf); repeat ((first | (with_reducible apply sT); rfl | (with_reducible apply sF); rfl | (with_reducible apply sE); rfl); conv => arg 3; whnf)
        refine sat_br (fun h1 => ?_) (fun h1 => ?_)
        · have h1 : m.kind ≠ 3 := by simpa using h1
          (conv => arg 3; whnf); repeat ((first | (with_reducible apply sT); rfl | (with_reducible apply sF); rfl | (with_reducible apply sE); rfl); conv => arg 3; whnf)
          exact sat_ret ⟨true, rfl, ⟨fun _ => ⟨⟨a1, a2⟩, a3, ⟨a4, a5⟩, a6, ⟨a7, a8⟩, p1, p2, p3, fun h => absurd h h1⟩, fun _ => rfl⟩, rfl⟩
        · have h1 : m.kind = 3 := by simpa using h1
          (conv => arg 3; whnf); repeat ((first | (with_reducible apply sT); rfl | (with_reducible apply sF); rfl | (with_reducible apply sE); rfl); conv => arg 3; whnf)
          rw [show (esT m.es).length = m.es.length by simp]
          refine sat_br (fun h2 => ?_) (fun h2 => ?_)
          · have h2 : m.es.length ≤ 8 := by have := of_decide_eq_true h2; omega
            (conv => arg 3; whnf); repeat ((first | (with_reducible apply sT); rfl | (with_reducible apply sF); rfl | (with_reducible apply sE); rfl); conv => arg 3; whnf)
            refine sat_call (kr (by omega)) ?_
            rintro r H' ⟨rfl, rfl⟩
            (conv => arg 3; whnf); repeat ((first | (with_reducible apply sT); rfl | (with_reducible apply sF); rfl | (with_reducible apply sE); rfl); conv => arg 3; whnf)
            refine sat_ret ⟨termsOK m.es m.prev m.term, rfl, ⟨fun h => ⟨⟨a1, a2⟩, a3, ⟨a4, a5⟩, a6, ⟨a7, a8⟩, p1, p2, p3, fun _ => ⟨h2, h⟩⟩, fun h => (h.es h1).2⟩, rfl⟩
          · have h2 : ¬ m.es.length ≤ 8 := by have := of_decide_eq_false h2; omega
            (conv => arg 3; whnf); repeat ((first | (with_reducible apply sT); rfl | (with_reducible apply sF); rfl | (with_reducible apply sE); rfl); conv => arg 3; whnf)
            refine sat_ret ⟨false, rfl, ⟨fun h => (by cases h), fun h => absurd (h.es h1).1 h2⟩, rfl⟩
end Stk
