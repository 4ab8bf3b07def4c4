/- Entries that are taken. -/
import Derived.Test.YtfffephdhnoiaaaM9
namespace Stk
open Go
set_option maxRecDepth 100000
set_option linter.unusedSimpArgs false
set_option linter.unusedVariables false
set_option maxHeartbeats 8000000
/-- How many of the entries that come are there. -/
def agree (L : List En) (a : Int) : List En → Nat → Nat
  | [], k => k
  | e :: r, k => if termAt L (a + k + 1) = e.term then agree L a r (k + 1) else k
theorem agree_drop {L : List En} {a : Int} {es : List En} {k : Nat} {e : En} (h : es[k]? = some e) : agree L a (es.drop k) k = if termAt L (a + k + 1) = e.term then agree L a (es.drop (k + 1)) (k + 1) else k := by
  have hi := (List.getElem?_eq_some_iff.1 h).1
  have : es[k] = e := (List.getElem?_eq_some_iff.1 h).2
  rw [List.drop_eq_getElem_cons hi, this]; rfl
def Nd.takeN (n : Nd) (m : Mi) (p : Int) : Nd × List Mo :=
  if m.term < n.term then (n, [n.msg 4 m.frm]) else if n.role = 2 then (n, []) else
  if m.index > n.log.length ∨ termAt n.log m.index ≠ m.prev then ({ n with role := 0, lead := m.frm, left := p }, [{ (n.msg 4 m.frm) with index := max (min (n.log.length : Int) (m.index - 1)) 0 }]) else
  if agree n.log m.index m.es 0 < m.es.length then
    ({ n with role := 0, lead := m.frm, left := p, log := n.log.take (m.index + agree n.log m.index m.es 0).toNat ++ owned ((m.es.drop (agree n.log m.index m.es 0)).take (min (m.es.length - agree n.log m.index m.es 0) (200 - (m.index + agree n.log m.index m.es 0).toNat))), commit := max n.commit (min m.commit (m.index + ((agree n.log m.index m.es 0 + min (m.es.length - agree n.log m.index m.es 0) (200 - (m.index + agree n.log m.index m.es 0).toNat) : Nat) : Int))) },
      [{ (n.msg 4 m.frm) with yes := true, index := m.index + ((agree n.log m.index m.es 0 + min (m.es.length - agree n.log m.index m.es 0) (200 - (m.index + agree n.log m.index m.es 0).toNat) : Nat) : Int) }])
  else
    ({ n with role := 0, lead := m.frm, left := p, commit := max n.commit (min m.commit (m.index + (agree n.log m.index m.es 0 : Nat))) }, [{ (n.msg 4 m.frm) with yes := true, index := m.index + (agree n.log m.index m.es 0 : Nat) }])
/-- What a call leaves: the server, its log in a new block, messages behind. -/
def Left2 (g : Nat) (N : Nd) (ms : List Mo) (r : AV) (H' : Hp) : Prop := ∃ cap' xs' c, LogR N.log xs' cap' ∧ r = .sl (N.D g cap' xs').length 0 [] 0 ms.length c ∧ H' = N.D g cap' xs' ++ [.row 46 (ms.map Mo.t)]
structure TkSt (L : List En) (a : Int) (es : List En) where
  k : Nat
  hk : k ≤ es.length
  ha : a + k ≤ L.length
  h : agree L a (es.drop k) k = agree L a es 0
structure T2St (L0 R : List En) where
  j : Nat
  L : List En
  xs : List Tr
  cap : Option Nat
  hj : j ≤ R.length
  eL : L = L0 ++ owned (R.take j)
  h2 : L0.length + j ≤ 200
  h : LogR L xs cap
theorem LogR.cutTo {L : List En} {xs : List Tr} {cap : Option Nat} (h : LogR L xs cap) {a : Nat} (ha : a ≤ L.length) : LogR (L.take a) xs (some (L.take a).length) := by
  have hl := h.l
  have el : (L.take a).length = a := by simp; omega
  refine ⟨?_, by rw [el]; omega, .inr rfl, fun h => by cases h⟩
  rw [el]
  have := congrArg (List.take a) h.t
  rw [List.take_take, Nat.min_eq_left ha] at this
  rw [this]; simp [esT, List.map_take]
theorem termAt_pos {L : List En} {a : Int} (h : 1 ≤ termAt L a) : 1 ≤ a ∧ a ≤ L.length := by
  unfold termAt at h
  split at h
  · omega
  · omega
theorem k_take (n : Nd) (cap : Option Nat) (xs : List Tr) (h : LogR n.log xs cap) (hi : n.LI) (hl2 : n.log.length ≤ 200) (m : Mi) (hix : 0 ≤ m.index ∧ m.index ≤ 1099511627776) (hcm : 0 ≤ m.commit ∧ m.commit ≤ 1099511627776) (hc2 : n.commit ≤ 1000) (hme : m.es.length ≤ 8)
    (htm : ∀ e ∈ m.es, 1 ≤ e.term) (hes : EsOK m.es) (draw : Int) (hd : I64 draw) :
    ACalls PP GG F.raft_Node_take [pt 0, m.l, ti draw] (n.H cap xs) fun r H' => Left2 n.g (n.takeN m (pat draw)).1 (n.takeN m (pat draw)).2 r H' := by
  obtain ⟨ho, hl, hsv, hc, hn, hm, ht⟩ := hi
  rcases n with ⟨me, sv, term, vote, role, lead, commit, left, log, _ | ks, nxt, mat⟩
  · dsimp only at h ho hl hsv hc hn hm ht hl2 hc2
    have km := k_msg ⟨me, sv, term, vote, role, lead, commit, left, log, none, nxt, mat⟩ cap xs 4 m.frm
    have kl := k_last ⟨me, sv, term, vote, 0, m.frm, commit, pat draw, log, none, nxt, mat⟩ cap xs
    have kt := k_term ⟨me, sv, term, vote, 0, m.frm, commit, pat draw, log, none, nxt, mat⟩ cap xs h
    dsimp only at kl kt
    refine K.raft_Node_take.callsD rfl ?_
    unfold Nd.takeN
    dsimp only
    (conv => arg 3; whnf); repeat ((first | (with_reducible apply sT); rfl | (with_reducible apply sF); rfl | (with_reducible apply sE); rfl); conv => arg 3; whnf)
    refine sat_call km ?_
    rintro r H' ⟨rfl, rfl⟩
    (conv => arg 3; whnf); repeat ((first | (with_reducible apply sT); rfl | (with_reducible apply sF); rfl | (with_reducible apply sE); rfl); conv => arg 3; whnf)
    refine sat_br (fun h1 => ?_) (fun h1 => ?_)
    · have h1 : m.term < term := of_decide_eq_true h1
      rw [if_pos h1]
      (conv => arg 3; whnf); repeat ((first | (with_reducible apply sT); rfl | (with_reducible apply sF); rfl | (with_reducible apply sE); rfl); conv => arg 3; whnf)
      exact sat_ret ⟨cap, xs, some 1, h, rfl, rfl⟩
    have h1 : ¬ m.term < term := of_decide_eq_false h1
    rw [if_neg h1]
    (conv => arg 3; whnf); repeat ((first | (with_reducible apply sT); rfl | (with_reducible apply sF); rfl | (with_reducible apply sE); rfl); conv => arg 3; whnf)
    refine sat_br (fun h2 => ?_) (fun h2 => ?_)
    · have h2 : role = 2 := by simpa using h2
      rw [if_pos h2]
      (conv => arg 3; whnf); repeat ((first | (with_reducible apply sT); rfl | (with_reducible apply sF); rfl | (with_reducible apply sE); rfl); conv => arg 3; whnf)
      exact sat_ret ⟨cap, xs, none, h, rfl, rfl⟩
    have h2 : ¬ role = 2 := by simpa using h2
    rw [if_neg h2]
    (conv => arg 3; whnf); repeat ((first | (with_reducible apply sT); rfl | (with_reducible apply sF); rfl | (with_reducible apply sE); rfl); conv => arg 3; whnf)
    refine sat_call (k_patience draw hd) ?_
    rintro r H' ⟨⟨p, rfl, _, _, hp⟩, rfl⟩
    obtain rfl : p = pat draw := hp
    (conv => arg 3; whnf); repeat ((first | (with_reducible apply sT); rfl | (with_reducible apply sF); rfl | (with_reducible apply sE); rfl); conv => arg 3; whnf)
    refine sat_call kl ?_
    rintro r H' ⟨rfl, rfl⟩
    (conv => arg 3; whnf); repeat ((first | (with_reducible apply sT); rfl | (with_reducible apply sF); rfl | (with_reducible apply sE); rfl); conv => arg 3; whnf)
    refine sat_br (fun h3 => ?_) (fun h3 => ?_)
    · have h3 : m.index > log.length := of_decide_eq_true h3
      rw [if_pos (.inl h3)]
      (conv => arg 3; whnf); repeat ((first | (with_reducible apply sT); rfl | (with_reducible apply sF); rfl | (with_reducible apply sE); rfl); conv => arg 3; whnf)
      repeat (first | ((with_reducible refine sat_rng ?_ ?_); (exact wrap64 (by omega) (by omega)); ((conv => arg 3; whnf); repeat ((first | (with_reducible apply sT); rfl | (with_reducible apply sF); rfl | (with_reducible apply sE); rfl); conv => arg 3; whnf))))
      refine sat_call kl ?_
      rintro r H' ⟨rfl, rfl⟩
      (conv => arg 3; whnf); repeat ((first | (with_reducible apply sT); rfl | (with_reducible apply sF); rfl | (with_reducible apply sE); rfl); conv => arg 3; whnf)
      repeat (first | ((with_reducible refine sat_rng ?_ ?_); (exact wrap64 (by omega) (by omega)); ((conv => arg 3; whnf); repeat ((first | (with_reducible apply sT); rfl | (with_reducible apply sF); rfl | (with_reducible apply sE); rfl); conv => arg 3; whnf))))
      exact sat_ret ⟨cap, xs, some 1, h, rfl, rfl⟩
    have h3 : ¬ m.index > log.length := of_decide_eq_false h3
    (conv => arg 3; whnf); repeat ((first | (with_reducible apply sT); rfl | (with_reducible apply sF); rfl | (with_reducible apply sE); rfl); conv => arg 3; whnf)
    refine sat_call (kt m.index (by omega) (by omega)) ?_
    rintro r H' ⟨rfl, rfl⟩
    (conv => arg 3; whnf); repeat ((first | (with_reducible apply sT); rfl | (with_reducible apply sF); rfl | (with_reducible apply sE); rfl); conv => arg 3; whnf)
    refine sat_br (fun h4 => ?_) (fun h4 => ?_)
    · have h4 : termAt log m.index ≠ m.prev := by simpa using h4
      rw [if_pos (.inr h4)]
      (conv => arg 3; whnf); repeat ((first | (with_reducible apply sT); rfl | (with_reducible apply sF); rfl | (with_reducible apply sE); rfl); conv => arg 3; whnf)
      repeat (first | ((with_reducible refine sat_rng ?_ ?_); (exact wrap64 (by omega) (by omega)); ((conv => arg 3; whnf); repeat ((first | (with_reducible apply sT); rfl | (with_reducible apply sF); rfl | (with_reducible apply sE); rfl); conv => arg 3; whnf))))
      refine sat_call kl ?_
      rintro r H' ⟨rfl, rfl⟩
      (conv => arg 3; whnf); repeat ((first | (with_reducible apply sT); rfl | (with_reducible apply sF); rfl | (with_reducible apply sE); rfl); conv => arg 3; whnf)
      repeat (first | ((with_reducible refine sat_rng ?_ ?_); (exact wrap64 (by omega) (by omega)); ((conv => arg 3; whnf); repeat ((first | (with_reducible apply sT); rfl | (with_reducible apply sF); rfl | (with_reducible apply sE); rfl); conv => arg 3; whnf))))
      exact sat_ret ⟨cap, xs, some 1, h, rfl, rfl⟩
    have h4 : termAt log m.index = m.prev := by simpa using h4
    rw [if_neg (by rintro (h | h) <;> contradiction)]
    generalize hag : agree log m.index m.es 0 = K
    (conv => arg 3; whnf); repeat ((first | (with_reducible apply sT); rfl | (with_reducible apply sF); rfl | (with_reducible apply sE); rfl); conv => arg 3; whnf)
    refine sat_loopOf mkX_ops (σ := TkSt log m.index m.es) (fun x => [(0, pt 0), (4, pt 2), (7, pt 3), (8, ti (x.k : Int))]) (fun x => Nd.H ⟨me, sv, term, vote, 0, m.frm, commit, pat draw, log, none, nxt, mat⟩ cap xs ++ [.var m.l, .var (.t (Mo.t ({ kind := 4, frm := me, to := m.frm, term := term } : Mo)))]) (fun x => m.es.length - x.k)
      (fun ex fr' H' => ex = .exit 0 ∧ fr' = [(0, pt 0), (4, pt 2), (7, pt 3), (8, ti (K : Int))] ∧ H' = Nd.H ⟨me, sv, term, vote, 0, m.frm, commit, pat draw, log, none, nxt, mat⟩ cap xs ++ [.var m.l, .var (.t (Mo.t ({ kind := 4, frm := me, to := m.frm, term := term } : Mo)))] ∧ K ≤ m.es.length ∧ m.index + K ≤ log.length) ⟨0, by omega, by omega, rfl⟩ ?_ ?_
    · rintro ⟨k, hk, ha, hag2⟩
      rw [hag] at hag2
      dsimp only
      (conv => arg 3; whnf); repeat ((first | (with_reducible apply sT); rfl | (with_reducible apply sF); rfl | (with_reducible apply sE); rfl); conv => arg 3; whnf)
      rw [show (esT m.es).length = m.es.length by simp]
      refine sat_br (fun h5 => ?_) (fun h5 => ?_)
      · have h5 : k < m.es.length := by have := of_decide_eq_true h5; omega
        have hu : m.es[k]? = some m.es[k] := List.getElem?_eq_getElem h5
        generalize m.es[k] = e at hu
        have he1 := htm e (List.mem_of_getElem? hu)
        rw [agree_drop hu] at hag2
        (conv => arg 3; whnf); repeat ((first | (with_reducible apply sT); rfl | (with_reducible apply sF); rfl | (with_reducible apply sE); rfl); conv => arg 3; whnf)
        repeat (first | ((with_reducible refine sat_rng ?_ ?_); (exact wrap64 (by omega) (by omega)); ((conv => arg 3; whnf); repeat ((first | (with_reducible apply sT); rfl | (with_reducible apply sF); rfl | (with_reducible apply sE); rfl); conv => arg 3; whnf))) | ((with_reducible refine sat_asrt ?_ ?_); (first | (simp; omega) | omega); ((conv => arg 3; whnf); repeat ((first | (with_reducible apply sT); rfl | (with_reducible apply sF); rfl | (with_reducible apply sE); rfl); conv => arg 3; whnf))) | ((with_reducible refine sat_idx (En.t e) ?_ ?_ ?_); (omega); (rw [Int.toNat_natCast, List.getElem?_map, hu]; rfl); ((conv => arg 3; whnf); repeat ((first | (with_reducible apply sT); rfl | (with_reducible apply sF); rfl | (with_reducible apply sE); rfl); conv => arg 3; whnf))))
        refine sat_call (kt (m.index + k + 1) (by omega) (by omega)) ?_
        rintro r H' ⟨rfl, rfl⟩
        (conv => arg 3; whnf); repeat ((first | (with_reducible apply sT); rfl | (with_reducible apply sF); rfl | (with_reducible apply sE); rfl); conv => arg 3; whnf)
        repeat (first | ((with_reducible refine sat_rng ?_ ?_); (exact wrap64 (by omega) (by omega)); ((conv => arg 3; whnf); repeat ((first | (with_reducible apply sT); rfl | (with_reducible apply sF); rfl | (with_reducible apply sE); rfl); conv => arg 3; whnf))) | ((with_reducible refine sat_asrt ?_ ?_); (first | (simp; omega) | omega); ((conv => arg 3; whnf); repeat ((first | (with_reducible apply sT); rfl | (with_reducible apply sF); rfl | (with_reducible apply sE); rfl); conv => arg 3; whnf))) | ((with_reducible refine sat_idx (En.t e) ?_ ?_ ?_); (omega); (rw [Int.toNat_natCast, List.getElem?_map, hu]; rfl); ((conv => arg 3; whnf); repeat ((first | (with_reducible apply sT); rfl | (with_reducible apply sF); rfl | (with_reducible apply sE); rfl); conv => arg 3; whnf))))
        refine sat_br (fun h6 => ?_) (fun h6 => ?_)
        · have h6 : termAt log (m.index + k + 1) = e.term := by simpa using h6
          rw [if_pos h6] at hag2
          have := termAt_pos (L := log) (a := m.index + k + 1) (by omega)
          (conv => arg 3; whnf); repeat ((first | (with_reducible apply sT); rfl | (with_reducible apply sF); rfl | (with_reducible apply sE); rfl); conv => arg 3; whnf)
          refine sat_rng (wrap64 (by omega) (by omega)) ?_
          exact sat_ret ⟨⟨k + 1, by omega, by omega, by rw [hag, hag2]⟩, rfl, rfl, by show m.es.length - (k + 1) < m.es.length - k; omega⟩
        · have h6 : ¬ termAt log (m.index + k + 1) = e.term := by simpa using h6
          rw [if_neg h6] at hag2
          subst hag2
          (conv => arg 3; whnf); repeat ((first | (with_reducible apply sT); rfl | (with_reducible apply sF); rfl | (with_reducible apply sE); rfl); conv => arg 3; whnf)
          exact sat_ret ⟨rfl, rfl, rfl, by omega, ha⟩
      · have h5 : ¬ k < m.es.length := by have := of_decide_eq_false h5; omega
        have : k = m.es.length := by omega
        subst this
        rw [List.drop_length] at hag2
        obtain rfl : m.es.length = K := hag2
        (conv => arg 3; whnf); repeat ((first | (with_reducible apply sT); rfl | (with_reducible apply sF); rfl | (with_reducible apply sE); rfl); conv => arg 3; whnf)
        exact sat_ret ⟨rfl, rfl, rfl, by omega, ha⟩
    · rintro ex fr' H' ⟨rfl, rfl, rfl, hK1, hK2⟩
      (conv => arg 3; whnf); repeat ((first | (with_reducible apply sT); rfl | (with_reducible apply sF); rfl | (with_reducible apply sE); rfl); conv => arg 3; whnf)
      rw [show (esT m.es).length = m.es.length by simp]
      refine sat_br (fun h5 => ?_) (fun h5 => ?_)
      · have h5 : K < m.es.length := by have := of_decide_eq_true h5; omega
        rw [if_pos h5]
        have hcl := h.cutTo (a := (m.index + K).toNat) (by omega)
        have el : (log.take (m.index + K).toNat).length = (m.index + K).toNat := by simp; omega
        generalize log.take (m.index + K).toNat = L0 at hcl el ⊢
        have eR : (m.es.drop K).length = m.es.length - K := by simp
        have hR : ∀ e ∈ m.es.drop K, e.OK := fun e he => hes e (List.mem_of_mem_drop he)
        generalize hRR : m.es.drop K = RR at *
        generalize hJ : min (m.es.length - K) (200 - (m.index + K).toNat) = J at *
        have hcc := h.c
        (conv => arg 3; whnf); repeat ((first | (with_reducible apply sT); rfl | (with_reducible apply sF); rfl | (with_reducible apply sE); rfl); conv => arg 3; whnf)
        repeat (first | ((with_reducible refine sat_rng ?_ ?_); (exact wrap64 (by omega) (by omega)); ((conv => arg 3; whnf); repeat ((first | (with_reducible apply sT); rfl | (with_reducible apply sF); rfl | (with_reducible apply sE); rfl); conv => arg 3; whnf))) | ((with_reducible refine sat_asrt ?_ ?_); (first | (simp; done) | (simp; omega) | (rcases hcc with rfl | rfl <;> simp <;> omega)); ((conv => arg 3; whnf); repeat ((first | (with_reducible apply sT); rfl | (with_reducible apply sF); rfl | (with_reducible apply sE); rfl); conv => arg 3; whnf))))
        rw [← el]
        refine sat_loopOf mkX_ops (σ := T2St L0 RR) (fun x => [(0, pt 0), (4, pt 2), (7, pt 3), (8, ti ((K + x.j : Nat) : Int))]) (fun x => Nd.H ⟨me, sv, term, vote, 0, m.frm, commit, pat draw, x.L, none, nxt, mat⟩ x.cap x.xs ++ [.var m.l, .var (.t (Mo.t ({ kind := 4, frm := me, to := m.frm, term := term } : Mo)))]) (fun x => RR.length - x.j)
          (fun ex fr' H' => ex = .exit 2 ∧ fr' = [(0, pt 0), (4, pt 2), (7, pt 3), (8, ti ((K + J : Nat) : Int))] ∧ ∃ cap' xs', LogR (L0 ++ owned (RR.take J)) xs' cap' ∧ H' = Nd.H ⟨me, sv, term, vote, 0, m.frm, commit, pat draw, (L0 ++ owned (RR.take J)), none, nxt, mat⟩ cap' xs' ++ [.var m.l, .var (.t (Mo.t ({ kind := 4, frm := me, to := m.frm, term := term } : Mo)))]) ⟨0, L0, xs, _, by omega, by simp [owned], by omega, hcl⟩ ?_ ?_
        · rintro ⟨j, L, ys, cp, hj, eL, h200, hx⟩
          have kl2 := k_last ⟨me, sv, term, vote, 0, m.frm, commit, pat draw, L, none, nxt, mat⟩ cp ys
          have eLl : L.length = L0.length + j := by rw [eL]; simp [owned]; omega
          dsimp only at kl2 ⊢
          (conv => arg 3; whnf); repeat ((first | (with_reducible apply sT); rfl | (with_reducible apply sF); rfl | (with_reducible apply sE); rfl); conv => arg 3; whnf)
          rw [show (esT m.es).length = m.es.length by simp]
          refine sat_br (fun h6 => ?_) (fun h6 => ?_)
          · have h6 : K + j < m.es.length := by have := of_decide_eq_true h6; omega
            (conv => arg 3; whnf); repeat ((first | (with_reducible apply sT); rfl | (with_reducible apply sF); rfl | (with_reducible apply sE); rfl); conv => arg 3; whnf)
            refine sat_call kl2 ?_
            rintro r H' ⟨rfl, rfl⟩
            (conv => arg 3; whnf); repeat ((first | (with_reducible apply sT); rfl | (with_reducible apply sF); rfl | (with_reducible apply sE); rfl); conv => arg 3; whnf)
            refine sat_br (fun h7 => ?_) (fun h7 => ?_)
            · have h7 : L.length < 200 := by have := of_decide_eq_true h7; omega
              have hu : m.es[K + j]? = some m.es[K + j] := List.getElem?_eq_getElem h6
              generalize m.es[K + j] = e at hu
              have heo := hes e (List.mem_of_getElem? hu)
              have hu2 : RR[j]? = some e := by rw [← hRR, List.getElem?_drop]; exact hu
              have hst : L0 ++ owned (RR.take (j + 1)) = L ++ [e.own] := by
                rw [eL, List.take_add_one, hu2]; simp [owned]
              have hjl : j < RR.length := (List.getElem?_eq_some_iff.1 hu2).1
              (conv => arg 3; whnf); repeat ((first | (with_reducible apply sT); rfl | (with_reducible apply sF); rfl | (with_reducible apply sE); rfl); conv => arg 3; whnf)
              refine sat_idx e.t (by omega) (by rw [Int.toNat_natCast, List.getElem?_map, hu]; rfl) ?_
              (conv => arg 3; whnf); repeat ((first | (with_reducible apply sT); rfl | (with_reducible apply sF); rfl | (with_reducible apply sE); rfl); conv => arg 3; whnf)
              refine sat_call (k_own e heo) ?_
              rintro r H' ⟨rfl, rfl⟩
              (conv => arg 3; whnf); repeat ((first | (with_reducible apply sT); rfl | (with_reducible apply sF); rfl | (with_reducible apply sE); rfl); conv => arg 3; whnf)
              rw [show List.take e.cmd.data.length (List.drop 0 e.cmd.data) = e.cmd.data by simp]
              obtain ⟨hc1, hc2⟩ := And.intro hx.c hx.n
              have hL := hx.snoc e.own
              rcases hc1 with rfl | hcap
              · have hxl := hc2 rfl
                have hL' : LogR (L ++ [e.own]) (ys ++ [e.own.t]) none := by rw [List.take_of_length_le (by omega)] at hL; exact hL
                have e3 : ∀ w : Tr, (ys ++ List.take 1 (List.drop 0 [w])).length = (L ++ [e.own]).length := fun w => by simp [hxl]
                refine sat_asrt (by simp; omega) ?_
                (conv => arg 3; whnf); repeat ((first | (with_reducible apply sT); rfl | (with_reducible apply sF); rfl | (with_reducible apply sE); rfl); conv => arg 3; whnf)
                refine sat_asrt (by simp [roomy]; omega) ?_
                (conv => arg 3; whnf); repeat ((first | (with_reducible apply sT); rfl | (with_reducible apply sF); rfl | (with_reducible apply sE); rfl); conv => arg 3; whnf)
                refine sat_br (fun h2 => ?_) (fun h2 => ?_)
                · (conv => arg 3; whnf); repeat ((first | (with_reducible apply sT); rfl | (with_reducible apply sF); rfl | (with_reducible apply sE); rfl); conv => arg 3; whnf)
                  rw [e3]
                  refine sat_rng (wrap64 (by omega) (by omega)) ?_
                  refine sat_ret ⟨⟨j + 1, L ++ [e.own], ys ++ [e.own.t], none, by omega, hst.symm, by omega, hL'⟩, rfl, ?_, by show RR.length - (j + 1) < RR.length - j; omega⟩
                  rfl
                · simp [hxl] at h2
              · rcases Nat.eq_zero_or_pos L.length with h0 | h0
                · have hcap : cp = some 0 := by rw [hcap, h0]
                  subst hcap
                  have hL' : LogR (L ++ [e.own]) [e.own.t] none := by rw [h0] at hL; exact hL
                  have e3 : ∀ w : Tr, (List.take 1 (List.drop 0 [w])).length = (L ++ [e.own]).length := fun w => by simp [h0]
                  (conv => arg 3; whnf); repeat ((first | (with_reducible apply sT); rfl | (with_reducible apply sF); rfl | (with_reducible apply sE); rfl); conv => arg 3; whnf)
                  refine sat_asrt (by simp [roomy]) ?_
                  (conv => arg 3; whnf); repeat ((first | (with_reducible apply sT); rfl | (with_reducible apply sF); rfl | (with_reducible apply sE); rfl); conv => arg 3; whnf)
                  rw [e3]
                  refine sat_rng (wrap64 (by omega) (by omega)) ?_
                  refine sat_ret ⟨⟨j + 1, L ++ [e.own], [e.own.t], none, by omega, hst.symm, by omega, hL'⟩, rfl, ?_, by show RR.length - (j + 1) < RR.length - j; omega⟩
                  rfl
                · obtain ⟨q, hq⟩ : ∃ q, L.length = q + 1 := ⟨L.length - 1, by omega⟩
                  have hcap : cp = some (q + 1) := by rw [hcap, hq]
                  subst hcap
                  have hL' : LogR (L ++ [e.own]) (List.take L.length (List.drop 0 ys) ++ [e.own.t]) none := by rw [List.drop_zero]; exact hL
                  have e3 : ∀ w : Tr, L.length + (List.take 1 (List.drop 0 [w])).length = (L ++ [e.own]).length := fun w => by simp
                  (conv => arg 3; whnf); repeat ((first | (with_reducible apply sT); rfl | (with_reducible apply sF); rfl | (with_reducible apply sE); rfl); conv => arg 3; whnf)
                  refine sat_br (fun h2 => ?_) (fun h2 => ?_)
                  · have h2 := of_decide_eq_true h2
                    simp at h2
                    omega
                  · (conv => arg 3; whnf); repeat ((first | (with_reducible apply sT); rfl | (with_reducible apply sF); rfl | (with_reducible apply sE); rfl); conv => arg 3; whnf)
                    refine sat_asrt (by simp [roomy]; omega) ?_
                    (conv => arg 3; whnf); repeat ((first | (with_reducible apply sT); rfl | (with_reducible apply sF); rfl | (with_reducible apply sE); rfl); conv => arg 3; whnf)
                    rw [e3]
                    refine sat_rng (wrap64 (by omega) (by omega)) ?_
                    refine sat_ret ⟨⟨j + 1, L ++ [e.own], List.take L.length (List.drop 0 ys) ++ [e.own.t], none, by omega, hst.symm, by omega, hL'⟩, rfl, ?_, by show RR.length - (j + 1) < RR.length - j; omega⟩
                    rfl
            · have h7 : ¬ L.length < 200 := by have := of_decide_eq_false h7; omega
              have : j = J := by omega
              subst this
              (conv => arg 3; whnf); repeat ((first | (with_reducible apply sT); rfl | (with_reducible apply sF); rfl | (with_reducible apply sE); rfl); conv => arg 3; whnf)
              exact sat_ret ⟨rfl, rfl, cp, ys, by rw [← eL]; exact hx, by (rw [← eL]; try rfl)⟩
          · have h6 : ¬ K + j < m.es.length := by have := of_decide_eq_false h6; omega
            have : j = J := by omega
            subst this
            (conv => arg 3; whnf); repeat ((first | (with_reducible apply sT); rfl | (with_reducible apply sF); rfl | (with_reducible apply sE); rfl); conv => arg 3; whnf)
            exact sat_ret ⟨rfl, rfl, cp, ys, by rw [← eL]; exact hx, by (rw [← eL]; try rfl)⟩
        · rintro ex fr' H' ⟨rfl, rfl, cap', xs', hL', rfl⟩
          have hKJ : m.index + ((K + J : Nat) : Int) ≤ 2000 := by omega
          (conv => arg 3; whnf); repeat ((first | (with_reducible apply sT); rfl | (with_reducible apply sF); rfl | (with_reducible apply sE); rfl); conv => arg 3; whnf)
          repeat (first | ((with_reducible refine sat_rng ?_ ?_); (exact wrap64 (by omega) (by omega)); ((conv => arg 3; whnf); repeat ((first | (with_reducible apply sT); rfl | (with_reducible apply sF); rfl | (with_reducible apply sE); rfl); conv => arg 3; whnf))))
          exact sat_ret ⟨cap', xs', some 1, hL', rfl, rfl⟩
      · have h5 : ¬ K < m.es.length := by have := of_decide_eq_false h5; omega
        rw [if_neg h5]
        (conv => arg 3; whnf); repeat ((first | (with_reducible apply sT); rfl | (with_reducible apply sF); rfl | (with_reducible apply sE); rfl); conv => arg 3; whnf)
        repeat (first | ((with_reducible refine sat_rng ?_ ?_); (exact wrap64 (by omega) (by omega)); ((conv => arg 3; whnf); repeat ((first | (with_reducible apply sT); rfl | (with_reducible apply sF); rfl | (with_reducible apply sE); rfl); conv => arg 3; whnf))))
        exact sat_ret ⟨cap, xs, some 1, h, rfl, rfl⟩
  · dsimp only at h ho hl hsv hc hn hm ht hl2 hc2
    have km := k_msg ⟨me, sv, term, vote, role, lead, commit, left, log, some ks, nxt, mat⟩ cap xs 4 m.frm
    have kl := k_last ⟨me, sv, term, vote, 0, m.frm, commit, pat draw, log, some ks, nxt, mat⟩ cap xs
    have kt := k_term ⟨me, sv, term, vote, 0, m.frm, commit, pat draw, log, some ks, nxt, mat⟩ cap xs h
    dsimp only at kl kt
    refine K.raft_Node_take.callsD rfl ?_
    unfold Nd.takeN
    dsimp only
    (conv => arg 3; whnf); repeat ((first | (with_reducible apply sT); rfl | (with_reducible apply sF); rfl | (with_reducible apply sE); rfl); conv => arg 3; whnf)
    refine sat_call km ?_
    rintro r H' ⟨rfl, rfl⟩
    (conv => arg 3; whnf); repeat ((first | (with_reducible apply sT); rfl | (with_reducible apply sF); rfl | (with_reducible apply sE); rfl); conv => arg 3; whnf)
    refine sat_br (fun h1 => ?_) (fun h1 => ?_)
    · have h1 : m.term < term := of_decide_eq_true h1
      rw [if_pos h1]
      (conv => arg 3; whnf); repeat ((first | (with_reducible apply sT); rfl | (with_reducible apply sF); rfl | (with_reducible apply sE); rfl); conv => arg 3; whnf)
      exact sat_ret ⟨cap, xs, some 1, h, rfl, rfl⟩
    have h1 : ¬ m.term < term := of_decide_eq_false h1
    rw [if_neg h1]
    (conv => arg 3; whnf); repeat ((first | (with_reducible apply sT); rfl | (with_reducible apply sF); rfl | (with_reducible apply sE); rfl); conv => arg 3; whnf)
    refine sat_br (fun h2 => ?_) (fun h2 => ?_)
    · have h2 : role = 2 := by simpa using h2
      rw [if_pos h2]
      (conv => arg 3; whnf); repeat ((first | (with_reducible apply sT); rfl | (with_reducible apply sF); rfl | (with_reducible apply sE); rfl); conv => arg 3; whnf)
      exact sat_ret ⟨cap, xs, none, h, rfl, rfl⟩
    have h2 : ¬ role = 2 := by simpa using h2
    rw [if_neg h2]
    (conv => arg 3; whnf); repeat ((first | (with_reducible apply sT); rfl | (with_reducible apply sF); rfl | (with_reducible apply sE); rfl); conv => arg 3; whnf)
    refine sat_call (k_patience draw hd) ?_
    rintro r H' ⟨⟨p, rfl, _, _, hp⟩, rfl⟩
    obtain rfl : p = pat draw := hp
    (conv => arg 3; whnf); repeat ((first | (with_reducible apply sT); rfl | (with_reducible apply sF); rfl | (with_reducible apply sE); rfl); conv => arg 3; whnf)
    refine sat_call kl ?_
    rintro r H' ⟨rfl, rfl⟩
    (conv => arg 3; whnf); repeat ((first | (with_reducible apply sT); rfl | (with_reducible apply sF); rfl | (with_reducible apply sE); rfl); conv => arg 3; whnf)
    refine sat_br (fun h3 => ?_) (fun h3 => ?_)
    · have h3 : m.index > log.length := of_decide_eq_true h3
      rw [if_pos (.inl h3)]
      (conv => arg 3; whnf); repeat ((first | (with_reducible apply sT); rfl | (with_reducible apply sF); rfl | (with_reducible apply sE); rfl); conv => arg 3; whnf)
      repeat (first | ((with_reducible refine sat_rng ?_ ?_); (exact wrap64 (by omega) (by omega)); ((conv => arg 3; whnf); repeat ((first | (with_reducible apply sT); rfl | (with_reducible apply sF); rfl | (with_reducible apply sE); rfl); conv => arg 3; whnf))))
      refine sat_call kl ?_
      rintro r H' ⟨rfl, rfl⟩
      (conv => arg 3; whnf); repeat ((first | (with_reducible apply sT); rfl | (with_reducible apply sF); rfl | (with_reducible apply sE); rfl); conv => arg 3; whnf)
      repeat (first | ((with_reducible refine sat_rng ?_ ?_); (exact wrap64 (by omega) (by omega)); ((conv => arg 3; whnf); repeat ((first | (with_reducible apply sT); rfl | (with_reducible apply sF); rfl | (with_reducible apply sE); rfl); conv => arg 3; whnf))))
      exact sat_ret ⟨cap, xs, some 1, h, rfl, rfl⟩
    have h3 : ¬ m.index > log.length := of_decide_eq_false h3
    (conv => arg 3; whnf); repeat ((first | (with_reducible apply sT); rfl | (with_reducible apply sF); rfl | (with_reducible apply sE); rfl); conv => arg 3; whnf)
    refine sat_call (kt m.index (by omega) (by omega)) ?_
    rintro r H' ⟨rfl, rfl⟩
    (conv => arg 3; whnf); repeat ((first | (with_reducible apply sT); rfl | (with_reducible apply sF); rfl | (with_reducible apply sE); rfl); conv => arg 3; whnf)
    refine sat_br (fun h4 => ?_) (fun h4 => ?_)
    · have h4 : termAt log m.index ≠ m.prev := by simpa using h4
      rw [if_pos (.inr h4)]
      (conv => arg 3; whnf); repeat ((first | (with_reducible apply sT); rfl | (with_reducible apply sF); rfl | (with_reducible apply sE); rfl); conv => arg 3; whnf)
      repeat (first | ((with_reducible refine sat_rng ?_ ?_); (exact wrap64 (by omega) (by omega)); ((conv => arg 3; whnf); repeat ((first | (with_reducible apply sT); rfl | (with_reducible apply sF); rfl | (with_reducible apply sE); rfl); conv => arg 3; whnf))))
      refine sat_call kl ?_
      rintro r H' ⟨rfl, rfl⟩
      (conv => arg 3; whnf); repeat ((first | (with_reducible apply sT); rfl | (with_reducible apply sF); rfl | (with_reducible apply sE); rfl); conv => arg 3; whnf)
      repeat (first | ((with_reducible refine sat_rng ?_ ?_); (exact wrap64 (by omega) (by omega)); ((conv => arg 3; whnf); repeat ((first | (with_reducible apply sT); rfl | (with_reducible apply sF); rfl | (with_reducible apply sE); rfl); conv => arg 3; whnf))))
      exact sat_ret ⟨cap, xs, some 1, h, rfl, rfl⟩
    have h4 : termAt log m.index = m.prev := by simpa using h4
    rw [if_neg (by rintro (h | h) <;> contradiction)]
    generalize hag : agree log m.index m.es 0 = K
    (conv => arg 3; whnf); repeat ((first | (with_reducible apply sT); rfl | (with_reducible apply sF); rfl | (with_reducible apply sE); rfl); conv => arg 3; whnf)
    refine sat_loopOf mkX_ops (σ := TkSt log m.index m.es) (fun x => [(0, pt 0), (4, pt 3), (7, pt 4), (8, ti (x.k : Int))]) (fun x => Nd.H ⟨me, sv, term, vote, 0, m.frm, commit, pat draw, log, some ks, nxt, mat⟩ cap xs ++ [.var m.l, .var (.t (Mo.t ({ kind := 4, frm := me, to := m.frm, term := term } : Mo)))]) (fun x => m.es.length - x.k)
      (fun ex fr' H' => ex = .exit 0 ∧ fr' = [(0, pt 0), (4, pt 3), (7, pt 4), (8, ti (K : Int))] ∧ H' = Nd.H ⟨me, sv, term, vote, 0, m.frm, commit, pat draw, log, some ks, nxt, mat⟩ cap xs ++ [.var m.l, .var (.t (Mo.t ({ kind := 4, frm := me, to := m.frm, term := term } : Mo)))] ∧ K ≤ m.es.length ∧ m.index + K ≤ log.length) ⟨0, by omega, by omega, rfl⟩ ?_ ?_
    · rintro ⟨k, hk, ha, hag2⟩
      rw [hag] at hag2
      dsimp only
      (conv => arg 3; whnf); repeat ((first | (with_reducible apply sT); rfl | (with_reducible apply sF); rfl | (with_reducible apply sE); rfl); conv => arg 3; whnf)
      rw [show (esT m.es).length = m.es.length by simp]
      refine sat_br (fun h5 => ?_) (fun h5 => ?_)
      · have h5 : k < m.es.length := by have := of_decide_eq_true h5; omega
        have hu : m.es[k]? = some m.es[k] := List.getElem?_eq_getElem h5
        generalize m.es[k] = e at hu
        have he1 := htm e (List.mem_of_getElem? hu)
        rw [agree_drop hu] at hag2
        (conv => arg 3; whnf); repeat ((first | (with_reducible apply sT); rfl | (with_reducible apply sF); rfl | (with_reducible apply sE); rfl); conv => arg 3; whnf)
        repeat (first | ((with_reducible refine sat_rng ?_ ?_); (exact wrap64 (by omega) (by omega)); ((conv => arg 3; whnf); repeat ((first | (with_reducible apply sT); rfl | (with_reducible apply sF); rfl | (with_reducible apply sE); rfl); conv => arg 3; whnf))) | ((with_reducible refine sat_asrt ?_ ?_); (first | (simp; omega) | omega); ((conv => arg 3; whnf); repeat ((first | (with_reducible apply sT); rfl | (with_reducible apply sF); rfl | (with_reducible apply sE); rfl); conv => arg 3; whnf))) | ((with_reducible refine sat_idx (En.t e) ?_ ?_ ?_); (omega); (rw [Int.toNat_natCast, List.getElem?_map, hu]; rfl); ((conv => arg 3; whnf); repeat ((first | (with_reducible apply sT); rfl | (with_reducible apply sF); rfl | (with_reducible apply sE); rfl); conv => arg 3; whnf))))
        refine sat_call (kt (m.index + k + 1) (by omega) (by omega)) ?_
        rintro r H' ⟨rfl, rfl⟩
        (conv => arg 3; whnf); repeat ((first | (with_reducible apply sT); rfl | (with_reducible apply sF); rfl | (with_reducible apply sE); rfl); conv => arg 3; whnf)
        repeat (first | ((with_reducible refine sat_rng ?_ ?_); (exact wrap64 (by omega) (by omega)); ((conv => arg 3; whnf); repeat ((first | (with_reducible apply sT); rfl | (with_reducible apply sF); rfl | (with_reducible apply sE); rfl); conv => arg 3; whnf))) | ((with_reducible refine sat_asrt ?_ ?_); (first | (simp; omega) | omega); ((conv => arg 3; whnf); repeat ((first | (with_reducible apply sT); rfl | (with_reducible apply sF); rfl | (with_reducible apply sE); rfl); conv => arg 3; whnf))) | ((with_reducible refine sat_idx (En.t e) ?_ ?_ ?_); (omega); (rw [Int.toNat_natCast, List.getElem?_map, hu]; rfl); ((conv => arg 3; whnf); repeat ((first | (with_reducible apply sT); rfl | (with_reducible apply sF); rfl | (with_reducible apply sE); rfl); conv => arg 3; whnf))))
        refine sat_br (fun h6 => ?_) (fun h6 => ?_)
        · have h6 : termAt log (m.index + k + 1) = e.term := by simpa using h6
          rw [if_pos h6] at hag2
          have := termAt_pos (L := log) (a := m.index + k + 1) (by omega)
          (conv => arg 3; whnf); repeat ((first | (with_reducible apply sT); rfl | (with_reducible apply sF); rfl | (with_reducible apply sE); rfl); conv => arg 3; whnf)
          refine sat_rng (wrap64 (by omega) (by omega)) ?_
          exact sat_ret ⟨⟨k + 1, by omega, by omega, by rw [hag, hag2]⟩, rfl, rfl, by show m.es.length - (k + 1) < m.es.length - k; omega⟩
        · have h6 : ¬ termAt log (m.index + k + 1) = e.term := by simpa using h6
          rw [if_neg h6] at hag2
          subst hag2
          (conv => arg 3; whnf); repeat ((first | (with_reducible apply sT); rfl | (with_reducible apply sF); rfl | (with_reducible apply sE); rfl); conv => arg 3; whnf)
          exact sat_ret ⟨rfl, rfl, rfl, by omega, ha⟩
      · have h5 : ¬ k < m.es.length := by have := of_decide_eq_false h5; omega
        have : k = m.es.length := by omega
        subst this
        rw [List.drop_length] at hag2
        obtain rfl : m.es.length = K := hag2
        (conv => arg 3; whnf); repeat ((first | (with_reducible apply sT); rfl | (with_reducible apply sF); rfl | (with_reducible apply sE); rfl); conv => arg 3; whnf)
        exact sat_ret ⟨rfl, rfl, rfl, by omega, ha⟩
    · rintro ex fr' H' ⟨rfl, rfl, rfl, hK1, hK2⟩
      (conv => arg 3; whnf); repeat ((first | (with_reducible apply sT); rfl | (with_reducible apply sF); rfl | (with_reducible apply sE); rfl); conv => arg 3; whnf)
      rw [show (esT m.es).length = m.es.length by simp]
      refine sat_br (fun h5 => ?_) (fun h5 => ?_)
      · have h5 : K < m.es.length := by have := of_decide_eq_true h5; omega
        rw [if_pos h5]
        have hcl := h.cutTo (a := (m.index + K).toNat) (by omega)
        have el : (log.take (m.index + K).toNat).length = (m.index + K).toNat := by simp; omega
        generalize log.take (m.index + K).toNat = L0 at hcl el ⊢
        have eR : (m.es.drop K).length = m.es.length - K := by simp
        have hR : ∀ e ∈ m.es.drop K, e.OK := fun e he => hes e (List.mem_of_mem_drop he)
        generalize hRR : m.es.drop K = RR at *
        generalize hJ : min (m.es.length - K) (200 - (m.index + K).toNat) = J at *
        have hcc := h.c
        (conv => arg 3; whnf); repeat ((first | (with_reducible apply sT); rfl | (with_reducible apply sF); rfl | (with_reducible apply sE); rfl); conv => arg 3; whnf)
        repeat (first | ((with_reducible refine sat_rng ?_ ?_); (exact wrap64 (by omega) (by omega)); ((conv => arg 3; whnf); repeat ((first | (with_reducible apply sT); rfl | (with_reducible apply sF); rfl | (with_reducible apply sE); rfl); conv => arg 3; whnf))) | ((with_reducible refine sat_asrt ?_ ?_); (first | (simp; done) | (simp; omega) | (rcases hcc with rfl | rfl <;> simp <;> omega)); ((conv => arg 3; whnf); repeat ((first | (with_reducible apply sT); rfl | (with_reducible apply sF); rfl | (with_reducible apply sE); rfl); conv => arg 3; whnf))))
        rw [← el]
        refine sat_loopOf mkX_ops (σ := T2St L0 RR) (fun x => [(0, pt 0), (4, pt 3), (7, pt 4), (8, ti ((K + x.j : Nat) : Int))]) (fun x => Nd.H ⟨me, sv, term, vote, 0, m.frm, commit, pat draw, x.L, some ks, nxt, mat⟩ x.cap x.xs ++ [.var m.l, .var (.t (Mo.t ({ kind := 4, frm := me, to := m.frm, term := term } : Mo)))]) (fun x => RR.length - x.j)
          (fun ex fr' H' => ex = .exit 2 ∧ fr' = [(0, pt 0), (4, pt 3), (7, pt 4), (8, ti ((K + J : Nat) : Int))] ∧ ∃ cap' xs', LogR (L0 ++ owned (RR.take J)) xs' cap' ∧ H' = Nd.H ⟨me, sv, term, vote, 0, m.frm, commit, pat draw, (L0 ++ owned (RR.take J)), some ks, nxt, mat⟩ cap' xs' ++ [.var m.l, .var (.t (Mo.t ({ kind := 4, frm := me, to := m.frm, term := term } : Mo)))]) ⟨0, L0, xs, _, by omega, by simp [owned], by omega, hcl⟩ ?_ ?_
        · rintro ⟨j, L, ys, cp, hj, eL, h200, hx⟩
          have kl2 := k_last ⟨me, sv, term, vote, 0, m.frm, commit, pat draw, L, some ks, nxt, mat⟩ cp ys
          have eLl : L.length = L0.length + j := by rw [eL]; simp [owned]; omega
          dsimp only at kl2 ⊢
          (conv => arg 3; whnf); repeat ((first | (with_reducible apply sT); rfl | (with_reducible apply sF); rfl | (with_reducible apply sE); rfl); conv => arg 3; whnf)
          rw [show (esT m.es).length = m.es.length by simp]
          refine sat_br (fun h6 => ?_) (fun h6 => ?_)
          · have h6 : K + j < m.es.length := by have := of_decide_eq_true h6; omega
            (conv => arg 3; whnf); repeat ((first | (with_reducible apply sT); rfl | (with_reducible apply sF); rfl | (with_reducible apply sE); rfl); conv => arg 3; whnf)
            refine sat_call kl2 ?_
            rintro r H' ⟨rfl, rfl⟩
            (conv => arg 3; whnf); repeat ((first | (with_reducible apply sT); rfl | (with_reducible apply sF); rfl | (with_reducible apply sE); rfl); conv => arg 3; whnf)
            refine sat_br (fun h7 => ?_) (fun h7 => ?_)
            · have h7 : L.length < 200 := by have := of_decide_eq_true h7; omega
              have hu : m.es[K + j]? = some m.es[K + j] := List.getElem?_eq_getElem h6
              generalize m.es[K + j] = e at hu
              have heo := hes e (List.mem_of_getElem? hu)
              have hu2 : RR[j]? = some e := by rw [← hRR, List.getElem?_drop]; exact hu
              have hst : L0 ++ owned (RR.take (j + 1)) = L ++ [e.own] := by
                rw [eL, List.take_add_one, hu2]; simp [owned]
              have hjl : j < RR.length := (List.getElem?_eq_some_iff.1 hu2).1
              (conv => arg 3; whnf); repeat ((first | (with_reducible apply sT); rfl | (with_reducible apply sF); rfl | (with_reducible apply sE); rfl); conv => arg 3; whnf)
              refine sat_idx e.t (by omega) (by rw [Int.toNat_natCast, List.getElem?_map, hu]; rfl) ?_
              (conv => arg 3; whnf); repeat ((first | (with_reducible apply sT); rfl | (with_reducible apply sF); rfl | (with_reducible apply sE); rfl); conv => arg 3; whnf)
              refine sat_call (k_own e heo) ?_
              rintro r H' ⟨rfl, rfl⟩
              (conv => arg 3; whnf); repeat ((first | (with_reducible apply sT); rfl | (with_reducible apply sF); rfl | (with_reducible apply sE); rfl); conv => arg 3; whnf)
              rw [show List.take e.cmd.data.length (List.drop 0 e.cmd.data) = e.cmd.data by simp]
              obtain ⟨hc1, hc2⟩ := And.intro hx.c hx.n
              have hL := hx.snoc e.own
              rcases hc1 with rfl | hcap
              · have hxl := hc2 rfl
                have hL' : LogR (L ++ [e.own]) (ys ++ [e.own.t]) none := by rw [List.take_of_length_le (by omega)] at hL; exact hL
                have e3 : ∀ w : Tr, (ys ++ List.take 1 (List.drop 0 [w])).length = (L ++ [e.own]).length := fun w => by simp [hxl]
                refine sat_asrt (by simp; omega) ?_
                (conv => arg 3; whnf); repeat ((first | (with_reducible apply sT); rfl | (with_reducible apply sF); rfl | (with_reducible apply sE); rfl); conv => arg 3; whnf)
                refine sat_asrt (by simp [roomy]; omega) ?_
                (conv => arg 3; whnf); repeat ((first | (with_reducible apply sT); rfl | (with_reducible apply sF); rfl | (with_reducible apply sE); rfl); conv => arg 3; whnf)
                refine sat_br (fun h2 => ?_) (fun h2 => ?_)
                · (conv => arg 3; whnf); repeat ((first | (with_reducible apply sT); rfl | (with_reducible apply sF); rfl | (with_reducible apply sE); rfl); conv => arg 3; whnf)
                  rw [e3]
                  refine sat_rng (wrap64 (by omega) (by omega)) ?_
                  refine sat_ret ⟨⟨j + 1, L ++ [e.own], ys ++ [e.own.t], none, by omega, hst.symm, by omega, hL'⟩, rfl, ?_, by show RR.length - (j + 1) < RR.length - j; omega⟩
                  rfl
                · simp [hxl] at h2
              · rcases Nat.eq_zero_or_pos L.length with h0 | h0
                · have hcap : cp = some 0 := by rw [hcap, h0]
                  subst hcap
                  have hL' : LogR (L ++ [e.own]) [e.own.t] none := by rw [h0] at hL; exact hL
                  have e3 : ∀ w : Tr, (List.take 1 (List.drop 0 [w])).length = (L ++ [e.own]).length := fun w => by simp [h0]
                  (conv => arg 3; whnf); repeat ((first | (with_reducible apply sT); rfl | (with_reducible apply sF); rfl | (with_reducible apply sE); rfl); conv => arg 3; whnf)
                  refine sat_asrt (by simp [roomy]) ?_
                  (conv => arg 3; whnf); repeat ((first | (with_reducible apply sT); rfl | (with_reducible apply sF); rfl | (with_reducible apply sE); rfl); conv => arg 3; whnf)
                  rw [e3]
                  refine sat_rng (wrap64 (by omega) (by omega)) ?_
                  refine sat_ret ⟨⟨j + 1, L ++ [e.own], [e.own.t], none, by omega, hst.symm, by omega, hL'⟩, rfl, ?_, by show RR.length - (j + 1) < RR.length - j; omega⟩
                  rfl
                · obtain ⟨q, hq⟩ : ∃ q, L.length = q + 1 := ⟨L.length - 1, by omega⟩
                  have hcap : cp = some (q + 1) := by rw [hcap, hq]
                  subst hcap
                  have hL' : LogR (L ++ [e.own]) (List.take L.length (List.drop 0 ys) ++ [e.own.t]) none := by rw [List.drop_zero]; exact hL
                  have e3 : ∀ w : Tr, L.length + (List.take 1 (List.drop 0 [w])).length = (L ++ [e.own]).length := fun w => by simp
                  (conv => arg 3; whnf); repeat ((first | (with_reducible apply sT); rfl | (with_reducible apply sF); rfl | (with_reducible apply sE); rfl); conv => arg 3; whnf)
                  refine sat_br (fun h2 => ?_) (fun h2 => ?_)
                  · have h2 := of_decide_eq_true h2
                    simp at h2
                    omega
                  · (conv => arg 3; whnf); repeat ((first | (with_reducible apply sT); rfl | (with_reducible apply sF); rfl | (with_reducible apply sE); rfl); conv => arg 3; whnf)
                    refine sat_asrt (by simp [roomy]; omega) ?_
                    (conv => arg 3; whnf); repeat ((first | (with_reducible apply sT); rfl | (with_reducible apply sF); rfl | (with_reducible apply sE); rfl); conv => arg 3; whnf)
                    rw [e3]
                    refine sat_rng (wrap64 (by omega) (by omega)) ?_
                    refine sat_ret ⟨⟨j + 1, L ++ [e.own], List.take L.length (List.drop 0 ys) ++ [e.own.t], none, by omega, hst.symm, by omega, hL'⟩, rfl, ?_, by show RR.length - (j + 1) < RR.length - j; omega⟩
                    rfl
            · have h7 : ¬ L.length < 200 := by have := of_decide_eq_false h7; omega
              have : j = J := by omega
              subst this
              (conv => arg 3; whnf); repeat ((first | (with_reducible apply sT); rfl | (with_reducible apply sF); rfl | (with_reducible apply sE); rfl); conv => arg 3; whnf)
              exact sat_ret ⟨rfl, rfl, cp, ys, by rw [← eL]; exact hx, by (rw [← eL]; try rfl)⟩
          · have h6 : ¬ K + j < m.es.length := by have := of_decide_eq_false h6; omega
            have : j = J := by omega
            subst this
            (conv => arg 3; whnf); repeat ((first | (with_reducible apply sT); rfl | (with_reducible apply sF); rfl | (with_reducible apply sE); rfl); conv => arg 3; whnf)
            exact sat_ret ⟨rfl, rfl, cp, ys, by rw [← eL]; exact hx, by (rw [← eL]; try rfl)⟩
        · rintro ex fr' H' ⟨rfl, rfl, cap', xs', hL', rfl⟩
          have hKJ : m.index + ((K + J : Nat) : Int) ≤ 2000 := by omega
          (conv => arg 3; whnf); repeat ((first | (with_reducible apply sT); rfl | (with_reducible apply sF); rfl | (with_reducible apply sE); rfl); conv => arg 3; whnf)
          repeat (first | ((with_reducible refine sat_rng ?_ ?_); (exact wrap64 (by omega) (by omega)); ((conv => arg 3; whnf); repeat ((first | (with_reducible apply sT); rfl | (with_reducible apply sF); rfl | (with_reducible apply sE); rfl); conv => arg 3; whnf))))
          exact sat_ret ⟨cap', xs', some 1, hL', rfl, rfl⟩
      · have h5 : ¬ K < m.es.length := by have := of_decide_eq_false h5; omega
        rw [if_neg h5]
        (conv => arg 3; whnf); repeat ((first | (with_reducible apply sT); rfl | (with_reducible apply sF); rfl | (with_reducible apply sE); rfl); conv => arg 3; whnf)
        repeat (first | ((with_reducible refine sat_rng ?_ ?_); (exact wrap64 (by omega) (by omega)); ((conv => arg 3; whnf); repeat ((first | (with_reducible apply sT); rfl | (with_reducible apply sF); rfl | (with_reducible apply sE); rfl); conv => arg 3; whnf))))
        exact sat_ret ⟨cap, xs, some 1, h, rfl, rfl⟩
end Stk
