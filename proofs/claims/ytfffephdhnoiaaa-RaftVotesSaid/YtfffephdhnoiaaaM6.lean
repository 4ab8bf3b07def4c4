/- A candidate that takes the lead; a server that stands; time that goes by. -/
import Derived.Test.YtfffephdhnoiaaaM5
namespace Stk
open Go
set_option maxRecDepth 100000
set_option linter.unusedSimpArgs false
set_option linter.unusedVariables false
set_option maxHeartbeats 4000000
abbrev zCm : Cm := ⟨0, 0, 0, 0, 0, false, List.replicate 32 (.int .u8 0), true, []⟩
def Nd.lead1 (n : Nd) : Nd := { n with role := 2, lead := n.me, nxt := List.replicate 6 ((n.log.length : Int) + 1), mat := List.replicate 6 0 }
def Nd.lead2 (n : Nd) : Nd := if n.log.length < 200 then { n.lead1 with log := n.log ++ [⟨n.term, zCm⟩] } else n.lead1
/-- What a server is that has taken the lead. -/
def Nd.leadN (n : Nd) : Nd := n.lead2.sure
def Nd.apps (n : Nd) : List Mo := upTo n.me n.appM n.sv.toNat
structure LdSt (v : Int) where
  i : Nat
  N : List Int
  M : List Int
  hi : i ≤ 6
  hN : N.length = 6 ∧ N.take i = List.replicate i v
  hM : M.length = 6 ∧ M.take i = List.replicate i 0
theorem iT_set (L : List Int) (i : Nat) (v : Int) : (iT L).set i (i6 v) = iT (L.set i v) := by simp [iT, List.map_set]
theorem take_set_succ {L : List Int} {i : Nat} {v : Int} (hl : i < L.length) (h : L.take i = List.replicate i v) : (L.set i v).take (i + 1) = List.replicate (i + 1) v := by
  rw [List.take_add_one, List.take_set_of_le (Nat.le_refl _), h, List.getElem?_set_self hl, List.replicate_succ']; rfl
theorem LogR.snoc {L : List En} {xs : List Tr} {cap : Option Nat} (h : LogR L xs cap) (e : En) : LogR (L ++ [e]) (xs.take L.length ++ [e.t]) none := by
  have := h.l
  refine ⟨?_, by simp; omega, .inl rfl, fun _ => by simp; omega⟩
  rw [List.take_of_length_le (by simp; exact Nat.min_le_left _ _), h.t]; simp
theorem k_lead (n : Nd) (cap : Option Nat) (xs : List Tr) (h : LogR n.log xs cap) (ho : EsOK n.log) (hl : n.log.length ≤ 999) (hsv : 1 ≤ n.sv ∧ n.sv ≤ 5) (hc : 0 ≤ n.commit) (hn : n.nxt.length = 6) (hm : n.mat.length = 6) :
    ACalls PP GG F.raft_Node_lead [pt 0] (n.H cap xs) fun r H' => ∃ cap' xs', LogR n.leadN.log xs' cap' ∧ r = .sl (n.leadN.D n.g cap' xs').length 0 [] 0 n.leadN.apps.length none ∧ H' = n.leadN.D n.g cap' xs' ++ [.row 46 (n.leadN.apps.map Mo.t)] := by
  have kl := k_last n cap xs
  rcases n with ⟨me, sv, term, vote, role, lead, commit, left, log, _ | ks, nxt, mat⟩
  · dsimp only at h ho hl hsv hc hm kl
    refine K.raft_Node_lead.callsD rfl ?_
    (conv => arg 3; whnf); repeat ((first | (with_reducible apply sT); rfl | (with_reducible apply sF); rfl | (with_reducible apply sE); rfl); conv => arg 3; whnf)
    refine sat_loopOf mkX_ops (σ := LdSt ((log.length : Int) + 1)) (fun x => [(0, pt 0), (14, ti (x.i : Int))]) (fun x => Nd.H ⟨me, sv, term, vote, 2, me, commit, left, log, none, x.N, x.M⟩ cap xs) (fun x => 6 - x.i)
      (fun ex fr' H' => ex = .exit 0 ∧ fr' = [(0, pt 0)] ∧ H' = Nd.H ⟨me, sv, term, vote, 2, me, commit, left, log, none, List.replicate 6 ((log.length : Int) + 1), List.replicate 6 0⟩ cap xs) ⟨0, nxt, mat, by omega, ⟨hn, rfl⟩, hm, rfl⟩ ?_ ?_
    · rintro ⟨i, N, M, hi, ⟨hN, hN2⟩, hM, hM2⟩
      dsimp only
      have kl := k_last ⟨me, sv, term, vote, 2, me, commit, left, log, none, N, M⟩ cap xs
      dsimp only at kl
      (conv => arg 3; whnf); repeat ((first | (with_reducible apply sT); rfl | (with_reducible apply sF); rfl | (with_reducible apply sE); rfl); conv => arg 3; whnf)
      refine sat_br (fun h1 => ?_) (fun h1 => ?_)
      · have h1 : (i : Int) < 6 := of_decide_eq_true h1
        (conv => arg 3; whnf); repeat ((first | (with_reducible apply sT); rfl | (with_reducible apply sF); rfl | (with_reducible apply sE); rfl); conv => arg 3; whnf)
        refine sat_call kl ?_
        rintro r H' ⟨rfl, rfl⟩
        (conv => arg 3; whnf); repeat ((first | (with_reducible apply sT); rfl | (with_reducible apply sF); rfl | (with_reducible apply sE); rfl); conv => arg 3; whnf)
        repeat (first | ((with_reducible refine sat_rng ?_ ?_); (exact wrap64 (by omega) (by omega)); ((conv => arg 3; whnf); repeat ((first | (with_reducible apply sT); rfl | (with_reducible apply sF); rfl | (with_reducible apply sE); rfl); conv => arg 3; whnf))) | ((with_reducible refine sat_asrt ?_ ?_); (first | (simp; omega) | omega); ((conv => arg 3; whnf); repeat ((first | (with_reducible apply sT); rfl | (with_reducible apply sF); rfl | (with_reducible apply sE); rfl); conv => arg 3; whnf))))
        rw [Int.toNat_natCast, iT_set, iT_set]
        refine sat_ret ⟨⟨i + 1, N.set i ((log.length : Int) + 1), M.set i 0, by omega, ⟨by simp [hN], take_set_succ (by omega) hN2⟩, ⟨by simp [hM], take_set_succ (by omega) hM2⟩⟩, rfl, rfl, by show 6 - (i + 1) < 6 - i; omega⟩
      · have h1 : ¬ (i : Int) < 6 := of_decide_eq_false h1
        have : i = 6 := by omega
        subst this
        rw [List.take_of_length_le (by omega)] at hN2 hM2
        subst hN2 hM2
        (conv => arg 3; whnf); repeat ((first | (with_reducible apply sT); rfl | (with_reducible apply sF); rfl | (with_reducible apply sE); rfl); conv => arg 3; whnf)
        exact sat_ret ⟨rfl, rfl, rfl⟩
    · rintro ex fr' H' ⟨rfl, rfl, rfl⟩
      have kl := k_last ⟨me, sv, term, vote, 2, me, commit, left, log, none, List.replicate 6 ((log.length : Int) + 1), List.replicate 6 0⟩ cap xs
      dsimp only at kl
      (conv => arg 3; whnf); repeat ((first | (with_reducible apply sT); rfl | (with_reducible apply sF); rfl | (with_reducible apply sE); rfl); conv => arg 3; whnf)
      refine sat_call kl ?_
      rintro r H' ⟨rfl, rfl⟩
      (conv => arg 3; whnf); repeat ((first | (with_reducible apply sT); rfl | (with_reducible apply sF); rfl | (with_reducible apply sE); rfl); conv => arg 3; whnf)
      refine sat_br (fun h1 => ?_) (fun h1 => ?_)
      · have h1 : log.length < 200 := by have := of_decide_eq_true h1; omega
        have e2 : Nd.lead2 ⟨me, sv, term, vote, role, lead, commit, left, log, none, nxt, mat⟩ = ⟨me, sv, term, vote, 2, me, commit, left, log ++ [(⟨term, zCm⟩ : En)], none, List.replicate 6 ((log.length : Int) + 1), List.replicate 6 0⟩ := by
          show (if _ then _ else _) = _
          rw [if_pos h1]; rfl
        have hL := h.snoc ⟨term, zCm⟩
        have e1 : (log ++ [(⟨term, zCm⟩ : En)]).length = log.length + 1 := by simp
        have eN : Nd.leadN ⟨me, sv, term, vote, role, lead, commit, left, log, none, nxt, mat⟩ = Nd.sure ⟨me, sv, term, vote, 2, me, commit, left, log ++ [(⟨term, zCm⟩ : En)], none, List.replicate 6 ((log.length : Int) + 1), List.replicate 6 0⟩ := by
          rw [Nd.leadN, e2]
        have hoL : EsOK (log ++ [(⟨term, zCm⟩ : En)]) := fun e he => by
          rcases List.mem_append.1 he with he | he
          · exact ho e he
          · rw [List.mem_singleton.1 he]; show ([] : List Tr).length ≤ 2 ^ 47; decide
        have hnx : ∀ to, 1 ≤ to ∧ to ≤ sv → 1 ≤ Nd.nx (Nd.sure ⟨me, sv, term, vote, 2, me, commit, left, log ++ [(⟨term, zCm⟩ : En)], none, List.replicate 6 ((log.length : Int) + 1), List.replicate 6 0⟩) to ∧ Nd.nx (Nd.sure ⟨me, sv, term, vote, 2, me, commit, left, log ++ [(⟨term, zCm⟩ : En)], none, List.replicate 6 ((log.length : Int) + 1), List.replicate 6 0⟩) to ≤ ((log ++ [(⟨term, zCm⟩ : En)] : List En).length : Int) + 1 := by
          intro to hto
          have : Nd.nx (Nd.sure ⟨me, sv, term, vote, 2, me, commit, left, log ++ [(⟨term, zCm⟩ : En)], none, List.replicate 6 ((log.length : Int) + 1), List.replicate 6 0⟩) to = (log.length : Int) + 1 := by
            show ((List.replicate 6 ((log.length : Int) + 1))[to.toNat]?).getD 0 = _
            rw [List.getElem?_replicate, if_pos (by omega)]; rfl
          rw [this, e1]; omega
        obtain ⟨hc1, hc2⟩ := And.intro h.c h.n
        rcases hc1 with rfl | hcap
        · have hxl := hc2 rfl
          have hL' : LogR (log ++ [(⟨term, zCm⟩ : En)]) (xs ++ [En.t ⟨term, zCm⟩]) none := by rw [List.take_of_length_le (by omega)] at hL; exact hL
          have e3 : ∀ w : Tr, (xs ++ List.take 1 (List.drop 0 [w])).length = (log ++ [(⟨term, zCm⟩ : En)]).length := fun w => by simp [hxl]
          (conv => arg 3; whnf); repeat ((first | (with_reducible apply sT); rfl | (with_reducible apply sF); rfl | (with_reducible apply sE); rfl); conv => arg 3; whnf)
          refine sat_asrt (by simp; omega) ?_
          (conv => arg 3; whnf); repeat ((first | (with_reducible apply sT); rfl | (with_reducible apply sF); rfl | (with_reducible apply sE); rfl); conv => arg 3; whnf)
          refine sat_asrt (by simp [roomy]; omega) ?_
          (conv => arg 3; whnf); repeat ((first | (with_reducible apply sT); rfl | (with_reducible apply sF); rfl | (with_reducible apply sE); rfl); conv => arg 3; whnf)
          refine sat_br (fun h2 => ?_) (fun h2 => ?_)
          · (conv => arg 3; whnf); repeat ((first | (with_reducible apply sT); rfl | (with_reducible apply sF); rfl | (with_reducible apply sE); rfl); conv => arg 3; whnf)
            rw [e3]
            refine sat_call (k_sure ⟨me, sv, term, vote, 2, me, commit, left, log ++ [(⟨term, zCm⟩ : En)], none, List.replicate 6 ((log.length : Int) + 1), List.replicate 6 0⟩ none (xs ++ [En.t ⟨term, zCm⟩]) hL' (by rw [e1]; omega) hsv hc rfl) ?_
            rintro r H' ⟨rfl, rfl⟩
            (conv => arg 3; whnf); repeat ((first | (with_reducible apply sT); rfl | (with_reducible apply sF); rfl | (with_reducible apply sE); rfl); conv => arg 3; whnf)
            refine sat_call (k_others_app (Nd.sure ⟨me, sv, term, vote, 2, me, commit, left, log ++ [(⟨term, zCm⟩ : En)], none, List.replicate 6 ((log.length : Int) + 1), List.replicate 6 0⟩) none (xs ++ [En.t ⟨term, zCm⟩]) hL' hoL (by show (log ++ [_]).length ≤ _; rw [e1]; omega) rfl hsv hnx) ?_
            rintro r H' ⟨rfl, rfl⟩
            (conv => arg 3; whnf); repeat ((first | (with_reducible apply sT); rfl | (with_reducible apply sF); rfl | (with_reducible apply sE); rfl); conv => arg 3; whnf)
            refine sat_ret ⟨none, (xs ++ [En.t ⟨term, zCm⟩]), by rw [eN]; exact hL', by rw [eN]; rfl, by rw [eN]; rfl⟩
          · simp [hxl] at h2
        · rcases Nat.eq_zero_or_pos log.length with h0 | h0
          · have hcap : cap = some 0 := by rw [hcap, h0]
            subst hcap
            have hL' : LogR (log ++ [(⟨term, zCm⟩ : En)]) [En.t ⟨term, zCm⟩] none := by rw [h0] at hL; exact hL
            have e3 : ∀ w : Tr, (List.take 1 (List.drop 0 [w])).length = (log ++ [(⟨term, zCm⟩ : En)]).length := fun w => by simp [h0]
            (conv => arg 3; whnf); repeat ((first | (with_reducible apply sT); rfl | (with_reducible apply sF); rfl | (with_reducible apply sE); rfl); conv => arg 3; whnf)
            refine sat_asrt (by simp [roomy]) ?_
            (conv => arg 3; whnf); repeat ((first | (with_reducible apply sT); rfl | (with_reducible apply sF); rfl | (with_reducible apply sE); rfl); conv => arg 3; whnf)
            rw [e3]
            refine sat_call (k_sure ⟨me, sv, term, vote, 2, me, commit, left, log ++ [(⟨term, zCm⟩ : En)], none, List.replicate 6 ((log.length : Int) + 1), List.replicate 6 0⟩ none [En.t ⟨term, zCm⟩] hL' (by rw [e1]; omega) hsv hc rfl) ?_
            rintro r H' ⟨rfl, rfl⟩
            (conv => arg 3; whnf); repeat ((first | (with_reducible apply sT); rfl | (with_reducible apply sF); rfl | (with_reducible apply sE); rfl); conv => arg 3; whnf)
            refine sat_call (k_others_app (Nd.sure ⟨me, sv, term, vote, 2, me, commit, left, log ++ [(⟨term, zCm⟩ : En)], none, List.replicate 6 ((log.length : Int) + 1), List.replicate 6 0⟩) none [En.t ⟨term, zCm⟩] hL' hoL (by show (log ++ [_]).length ≤ _; rw [e1]; omega) rfl hsv hnx) ?_
            rintro r H' ⟨rfl, rfl⟩
            (conv => arg 3; whnf); repeat ((first | (with_reducible apply sT); rfl | (with_reducible apply sF); rfl | (with_reducible apply sE); rfl); conv => arg 3; whnf)
            refine sat_ret ⟨none, [En.t ⟨term, zCm⟩], by rw [eN]; exact hL', by rw [eN]; rfl, by rw [eN]; rfl⟩
          · obtain ⟨q, hq⟩ : ∃ q, log.length = q + 1 := ⟨log.length - 1, by omega⟩
            have hcap : cap = some (q + 1) := by rw [hcap, hq]
            subst hcap
            have hL' : LogR (log ++ [(⟨term, zCm⟩ : En)]) (List.take log.length (List.drop 0 xs) ++ [En.t ⟨term, zCm⟩]) none := by rw [List.drop_zero]; exact hL
            have e3 : ∀ w : Tr, log.length + (List.take 1 (List.drop 0 [w])).length = (log ++ [(⟨term, zCm⟩ : En)]).length := fun w => by simp
            (conv => arg 3; whnf); repeat ((first | (with_reducible apply sT); rfl | (with_reducible apply sF); rfl | (with_reducible apply sE); rfl); conv => arg 3; whnf)
            refine sat_br (fun h2 => ?_) (fun h2 => ?_)
            · have h2 := of_decide_eq_true h2
              simp at h2
              omega
            · (conv => arg 3; whnf); repeat ((first | (with_reducible apply sT); rfl | (with_reducible apply sF); rfl | (with_reducible apply sE); rfl); conv => arg 3; whnf)
              refine sat_asrt (by simp [roomy]; omega) ?_
              (conv => arg 3; whnf); repeat ((first | (with_reducible apply sT); rfl | (with_reducible apply sF); rfl | (with_reducible apply sE); rfl); conv => arg 3; whnf)
              rw [e3]
              refine sat_call (k_sure ⟨me, sv, term, vote, 2, me, commit, left, log ++ [(⟨term, zCm⟩ : En)], none, List.replicate 6 ((log.length : Int) + 1), List.replicate 6 0⟩ none (List.take log.length (List.drop 0 xs) ++ [En.t ⟨term, zCm⟩]) hL' (by rw [e1]; omega) hsv hc rfl) ?_
              rintro r H' ⟨rfl, rfl⟩
              (conv => arg 3; whnf); repeat ((first | (with_reducible apply sT); rfl | (with_reducible apply sF); rfl | (with_reducible apply sE); rfl); conv => arg 3; whnf)
              refine sat_call (k_others_app (Nd.sure ⟨me, sv, term, vote, 2, me, commit, left, log ++ [(⟨term, zCm⟩ : En)], none, List.replicate 6 ((log.length : Int) + 1), List.replicate 6 0⟩) none (List.take log.length (List.drop 0 xs) ++ [En.t ⟨term, zCm⟩]) hL' hoL (by show (log ++ [_]).length ≤ _; rw [e1]; omega) rfl hsv hnx) ?_
              rintro r H' ⟨rfl, rfl⟩
              (conv => arg 3; whnf); repeat ((first | (with_reducible apply sT); rfl | (with_reducible apply sF); rfl | (with_reducible apply sE); rfl); conv => arg 3; whnf)
              refine sat_ret ⟨none, (List.take log.length (List.drop 0 xs) ++ [En.t ⟨term, zCm⟩]), by rw [eN]; exact hL', by rw [eN]; rfl, by rw [eN]; rfl⟩
      · have h1 : ¬ log.length < 200 := by have := of_decide_eq_false h1; omega
        have e2 : Nd.lead2 ⟨me, sv, term, vote, role, lead, commit, left, log, none, nxt, mat⟩ = ⟨me, sv, term, vote, 2, me, commit, left, log, none, List.replicate 6 ((log.length : Int) + 1), List.replicate 6 0⟩ := by
          show (if _ then _ else _) = _
          rw [if_neg h1]; rfl
        have eN : Nd.leadN ⟨me, sv, term, vote, role, lead, commit, left, log, none, nxt, mat⟩ = Nd.sure ⟨me, sv, term, vote, 2, me, commit, left, log, none, List.replicate 6 ((log.length : Int) + 1), List.replicate 6 0⟩ := by
          rw [Nd.leadN, e2]
        have hnx : ∀ to, 1 ≤ to ∧ to ≤ sv → 1 ≤ Nd.nx (Nd.sure ⟨me, sv, term, vote, 2, me, commit, left, log, none, List.replicate 6 ((log.length : Int) + 1), List.replicate 6 0⟩) to ∧ Nd.nx (Nd.sure ⟨me, sv, term, vote, 2, me, commit, left, log, none, List.replicate 6 ((log.length : Int) + 1), List.replicate 6 0⟩) to ≤ (log.length : Int) + 1 := by
          intro to hto
          have : Nd.nx (Nd.sure ⟨me, sv, term, vote, 2, me, commit, left, log, none, List.replicate 6 ((log.length : Int) + 1), List.replicate 6 0⟩) to = (log.length : Int) + 1 := by
            show ((List.replicate 6 ((log.length : Int) + 1))[to.toNat]?).getD 0 = _
            rw [List.getElem?_replicate, if_pos (by omega)]; rfl
          rw [this]; omega
        (conv => arg 3; whnf); repeat ((first | (with_reducible apply sT); rfl | (with_reducible apply sF); rfl | (with_reducible apply sE); rfl); conv => arg 3; whnf)
        refine sat_call (k_sure ⟨me, sv, term, vote, 2, me, commit, left, log, none, List.replicate 6 ((log.length : Int) + 1), List.replicate 6 0⟩ cap xs h (by dsimp only; omega) hsv hc rfl) ?_
        rintro r H' ⟨rfl, rfl⟩
        (conv => arg 3; whnf); repeat ((first | (with_reducible apply sT); rfl | (with_reducible apply sF); rfl | (with_reducible apply sE); rfl); conv => arg 3; whnf)
        refine sat_call (k_others_app (Nd.sure ⟨me, sv, term, vote, 2, me, commit, left, log, none, List.replicate 6 ((log.length : Int) + 1), List.replicate 6 0⟩) cap xs h ho (by show log.length ≤ _; omega) rfl hsv hnx) ?_
        rintro r H' ⟨rfl, rfl⟩
        (conv => arg 3; whnf); repeat ((first | (with_reducible apply sT); rfl | (with_reducible apply sF); rfl | (with_reducible apply sE); rfl); conv => arg 3; whnf)
        refine sat_ret ⟨cap, xs, by rw [eN]; exact h, by rw [eN]; rfl, by rw [eN]; rfl⟩
  · dsimp only at h ho hl hsv hc hm kl
    refine K.raft_Node_lead.callsD rfl ?_
    (conv => arg 3; whnf); repeat ((first | (with_reducible apply sT); rfl | (with_reducible apply sF); rfl | (with_reducible apply sE); rfl); conv => arg 3; whnf)
    refine sat_loopOf mkX_ops (σ := LdSt ((log.length : Int) + 1)) (fun x => [(0, pt 0), (14, ti (x.i : Int))]) (fun x => Nd.H ⟨me, sv, term, vote, 2, me, commit, left, log, some ks, x.N, x.M⟩ cap xs) (fun x => 6 - x.i)
      (fun ex fr' H' => ex = .exit 0 ∧ fr' = [(0, pt 0)] ∧ H' = Nd.H ⟨me, sv, term, vote, 2, me, commit, left, log, some ks, List.replicate 6 ((log.length : Int) + 1), List.replicate 6 0⟩ cap xs) ⟨0, nxt, mat, by omega, ⟨hn, rfl⟩, hm, rfl⟩ ?_ ?_
    · rintro ⟨i, N, M, hi, ⟨hN, hN2⟩, hM, hM2⟩
      dsimp only
      have kl := k_last ⟨me, sv, term, vote, 2, me, commit, left, log, some ks, N, M⟩ cap xs
      dsimp only at kl
      (conv => arg 3; whnf); repeat ((first | (with_reducible apply sT); rfl | (with_reducible apply sF); rfl | (with_reducible apply sE); rfl); conv => arg 3; whnf)
      refine sat_br (fun h1 => ?_) (fun h1 => ?_)
      · have h1 : (i : Int) < 6 := of_decide_eq_true h1
        (conv => arg 3; whnf); repeat ((first | (with_reducible apply sT); rfl | (with_reducible apply sF); rfl | (with_reducible apply sE); rfl); conv => arg 3; whnf)
        refine sat_call kl ?_
        rintro r H' ⟨rfl, rfl⟩
        (conv => arg 3; whnf); repeat ((first | (with_reducible apply sT); rfl | (with_reducible apply sF); rfl | (with_reducible apply sE); rfl); conv => arg 3; whnf)
        repeat (first | ((with_reducible refine sat_rng ?_ ?_); (exact wrap64 (by omega) (by omega)); ((conv => arg 3; whnf); repeat ((first | (with_reducible apply sT); rfl | (with_reducible apply sF); rfl | (with_reducible apply sE); rfl); conv => arg 3; whnf))) | ((with_reducible refine sat_asrt ?_ ?_); (first | (simp; omega) | omega); ((conv => arg 3; whnf); repeat ((first | (with_reducible apply sT); rfl | (with_reducible apply sF); rfl | (with_reducible apply sE); rfl); conv => arg 3; whnf))))
        rw [Int.toNat_natCast, iT_set, iT_set]
        refine sat_ret ⟨⟨i + 1, N.set i ((log.length : Int) + 1), M.set i 0, by omega, ⟨by simp [hN], take_set_succ (by omega) hN2⟩, ⟨by simp [hM], take_set_succ (by omega) hM2⟩⟩, rfl, rfl, by show 6 - (i + 1) < 6 - i; omega⟩
      · have h1 : ¬ (i : Int) < 6 := of_decide_eq_false h1
        have : i = 6 := by omega
        subst this
        rw [List.take_of_length_le (by omega)] at hN2 hM2
        subst hN2 hM2
        (conv => arg 3; whnf); repeat ((first | (with_reducible apply sT); rfl | (with_reducible apply sF); rfl | (with_reducible apply sE); rfl); conv => arg 3; whnf)
        exact sat_ret ⟨rfl, rfl, rfl⟩
    · rintro ex fr' H' ⟨rfl, rfl, rfl⟩
      have kl := k_last ⟨me, sv, term, vote, 2, me, commit, left, log, some ks, List.replicate 6 ((log.length : Int) + 1), List.replicate 6 0⟩ cap xs
      dsimp only at kl
      (conv => arg 3; whnf); repeat ((first | (with_reducible apply sT); rfl | (with_reducible apply sF); rfl | (with_reducible apply sE); rfl); conv => arg 3; whnf)
      refine sat_call kl ?_
      rintro r H' ⟨rfl, rfl⟩
      (conv => arg 3; whnf); repeat ((first | (with_reducible apply sT); rfl | (with_reducible apply sF); rfl | (with_reducible apply sE); rfl); conv => arg 3; whnf)
      refine sat_br (fun h1 => ?_) (fun h1 => ?_)
      · have h1 : log.length < 200 := by have := of_decide_eq_true h1; omega
        have e2 : Nd.lead2 ⟨me, sv, term, vote, role, lead, commit, left, log, some ks, nxt, mat⟩ = ⟨me, sv, term, vote, 2, me, commit, left, log ++ [(⟨term, zCm⟩ : En)], some ks, List.replicate 6 ((log.length : Int) + 1), List.replicate 6 0⟩ := by
          show (if _ then _ else _) = _
          rw [if_pos h1]; rfl
        have hL := h.snoc ⟨term, zCm⟩
        have e1 : (log ++ [(⟨term, zCm⟩ : En)]).length = log.length + 1 := by simp
        have eN : Nd.leadN ⟨me, sv, term, vote, role, lead, commit, left, log, some ks, nxt, mat⟩ = Nd.sure ⟨me, sv, term, vote, 2, me, commit, left, log ++ [(⟨term, zCm⟩ : En)], some ks, List.replicate 6 ((log.length : Int) + 1), List.replicate 6 0⟩ := by
          rw [Nd.leadN, e2]
        have hoL : EsOK (log ++ [(⟨term, zCm⟩ : En)]) := fun e he => by
          rcases List.mem_append.1 he with he | he
          · exact ho e he
          · rw [List.mem_singleton.1 he]; show ([] : List Tr).length ≤ 2 ^ 47; decide
        have hnx : ∀ to, 1 ≤ to ∧ to ≤ sv → 1 ≤ Nd.nx (Nd.sure ⟨me, sv, term, vote, 2, me, commit, left, log ++ [(⟨term, zCm⟩ : En)], some ks, List.replicate 6 ((log.length : Int) + 1), List.replicate 6 0⟩) to ∧ Nd.nx (Nd.sure ⟨me, sv, term, vote, 2, me, commit, left, log ++ [(⟨term, zCm⟩ : En)], some ks, List.replicate 6 ((log.length : Int) + 1), List.replicate 6 0⟩) to ≤ ((log ++ [(⟨term, zCm⟩ : En)] : List En).length : Int) + 1 := by
          intro to hto
          have : Nd.nx (Nd.sure ⟨me, sv, term, vote, 2, me, commit, left, log ++ [(⟨term, zCm⟩ : En)], some ks, List.replicate 6 ((log.length : Int) + 1), List.replicate 6 0⟩) to = (log.length : Int) + 1 := by
            show ((List.replicate 6 ((log.length : Int) + 1))[to.toNat]?).getD 0 = _
            rw [List.getElem?_replicate, if_pos (by omega)]; rfl
          rw [this, e1]; omega
        obtain ⟨hc1, hc2⟩ := And.intro h.c h.n
        rcases hc1 with rfl | hcap
        · have hxl := hc2 rfl
          have hL' : LogR (log ++ [(⟨term, zCm⟩ : En)]) (xs ++ [En.t ⟨term, zCm⟩]) none := by rw [List.take_of_length_le (by omega)] at hL; exact hL
          have e3 : ∀ w : Tr, (xs ++ List.take 1 (List.drop 0 [w])).length = (log ++ [(⟨term, zCm⟩ : En)]).length := fun w => by simp [hxl]
          (conv => arg 3; whnf); repeat ((first | (with_reducible apply sT); rfl | (with_reducible apply sF); rfl | (with_reducible apply sE); rfl); conv => arg 3; whnf)
          refine sat_asrt (by simp; omega) ?_
          (conv => arg 3; whnf); repeat ((first | (with_reducible apply sT); rfl | (with_reducible apply sF); rfl | (with_reducible apply sE); rfl); conv => arg 3; whnf)
          refine sat_asrt (by simp [roomy]; omega) ?_
          (conv => arg 3; whnf); repeat ((first | (with_reducible apply sT); rfl | (with_reducible apply sF); rfl | (with_reducible apply sE); rfl); conv => arg 3; whnf)
          refine sat_br (fun h2 => ?_) (fun h2 => ?_)
          · (conv => arg 3; whnf); repeat ((first | (with_reducible apply sT); rfl | (with_reducible apply sF); rfl | (with_reducible apply sE); rfl); conv => arg 3; whnf)
            rw [e3]
            refine sat_call (k_sure ⟨me, sv, term, vote, 2, me, commit, left, log ++ [(⟨term, zCm⟩ : En)], some ks, List.replicate 6 ((log.length : Int) + 1), List.replicate 6 0⟩ none (xs ++ [En.t ⟨term, zCm⟩]) hL' (by rw [e1]; omega) hsv hc rfl) ?_
            rintro r H' ⟨rfl, rfl⟩
            (conv => arg 3; whnf); repeat ((first | (with_reducible apply sT); rfl | (with_reducible apply sF); rfl | (with_reducible apply sE); rfl); conv => arg 3; whnf)
            refine sat_call (k_others_app (Nd.sure ⟨me, sv, term, vote, 2, me, commit, left, log ++ [(⟨term, zCm⟩ : En)], some ks, List.replicate 6 ((log.length : Int) + 1), List.replicate 6 0⟩) none (xs ++ [En.t ⟨term, zCm⟩]) hL' hoL (by show (log ++ [_]).length ≤ _; rw [e1]; omega) rfl hsv hnx) ?_
            rintro r H' ⟨rfl, rfl⟩
            (conv => arg 3; whnf); repeat ((first | (with_reducible apply sT); rfl | (with_reducible apply sF); rfl | (with_reducible apply sE); rfl); conv => arg 3; whnf)
            refine sat_ret ⟨none, (xs ++ [En.t ⟨term, zCm⟩]), by rw [eN]; exact hL', by rw [eN]; rfl, by rw [eN]; rfl⟩
          · simp [hxl] at h2
        · rcases Nat.eq_zero_or_pos log.length with h0 | h0
          · have hcap : cap = some 0 := by rw [hcap, h0]
            subst hcap
            have hL' : LogR (log ++ [(⟨term, zCm⟩ : En)]) [En.t ⟨term, zCm⟩] none := by rw [h0] at hL; exact hL
            have e3 : ∀ w : Tr, (List.take 1 (List.drop 0 [w])).length = (log ++ [(⟨term, zCm⟩ : En)]).length := fun w => by simp [h0]
            (conv => arg 3; whnf); repeat ((first | (with_reducible apply sT); rfl | (with_reducible apply sF); rfl | (with_reducible apply sE); rfl); conv => arg 3; whnf)
            refine sat_asrt (by simp [roomy]) ?_
            (conv => arg 3; whnf); repeat ((first | (with_reducible apply sT); rfl | (with_reducible apply sF); rfl | (with_reducible apply sE); rfl); conv => arg 3; whnf)
            rw [e3]
            refine sat_call (k_sure ⟨me, sv, term, vote, 2, me, commit, left, log ++ [(⟨term, zCm⟩ : En)], some ks, List.replicate 6 ((log.length : Int) + 1), List.replicate 6 0⟩ none [En.t ⟨term, zCm⟩] hL' (by rw [e1]; omega) hsv hc rfl) ?_
            rintro r H' ⟨rfl, rfl⟩
            (conv => arg 3; whnf); repeat ((first | (with_reducible apply sT); rfl | (with_reducible apply sF); rfl | (with_reducible apply sE); rfl); conv => arg 3; whnf)
            refine sat_call (k_others_app (Nd.sure ⟨me, sv, term, vote, 2, me, commit, left, log ++ [(⟨term, zCm⟩ : En)], some ks, List.replicate 6 ((log.length : Int) + 1), List.replicate 6 0⟩) none [En.t ⟨term, zCm⟩] hL' hoL (by show (log ++ [_]).length ≤ _; rw [e1]; omega) rfl hsv hnx) ?_
            rintro r H' ⟨rfl, rfl⟩
            (conv => arg 3; whnf); repeat ((first | (with_reducible apply sT); rfl | (with_reducible apply sF); rfl | (with_reducible apply sE); rfl); conv => arg 3; whnf)
            refine sat_ret ⟨none, [En.t ⟨term, zCm⟩], by rw [eN]; exact hL', by rw [eN]; rfl, by rw [eN]; rfl⟩
          · obtain ⟨q, hq⟩ : ∃ q, log.length = q + 1 := ⟨log.length - 1, by omega⟩
            have hcap : cap = some (q + 1) := by rw [hcap, hq]
            subst hcap
            have hL' : LogR (log ++ [(⟨term, zCm⟩ : En)]) (List.take log.length (List.drop 0 xs) ++ [En.t ⟨term, zCm⟩]) none := by rw [List.drop_zero]; exact hL
            have e3 : ∀ w : Tr, log.length + (List.take 1 (List.drop 0 [w])).length = (log ++ [(⟨term, zCm⟩ : En)]).length := fun w => by simp
            (conv => arg 3; whnf); repeat ((first | (with_reducible apply sT); rfl | (with_reducible apply sF); rfl | (with_reducible apply sE); rfl); conv => arg 3; whnf)
            refine sat_br (fun h2 => ?_) (fun h2 => ?_)
            · have h2 := of_decide_eq_true h2
              simp at h2
              omega
            · (conv => arg 3; whnf); repeat ((first | (with_reducible apply sT); rfl | (with_reducible apply sF); rfl | (with_reducible apply sE); rfl); conv => arg 3; whnf)
              refine sat_asrt (by simp [roomy]; omega) ?_
              (conv => arg 3; whnf); repeat ((first | (with_reducible apply sT); rfl | (with_reducible apply sF); rfl | (with_reducible apply sE); rfl); conv => arg 3; whnf)
              rw [e3]
              refine sat_call (k_sure ⟨me, sv, term, vote, 2, me, commit, left, log ++ [(⟨term, zCm⟩ : En)], some ks, List.replicate 6 ((log.length : Int) + 1), List.replicate 6 0⟩ none (List.take log.length (List.drop 0 xs) ++ [En.t ⟨term, zCm⟩]) hL' (by rw [e1]; omega) hsv hc rfl) ?_
              rintro r H' ⟨rfl, rfl⟩
              (conv => arg 3; whnf); repeat ((first | (with_reducible apply sT); rfl | (with_reducible apply sF); rfl | (with_reducible apply sE); rfl); conv => arg 3; whnf)
              refine sat_call (k_others_app (Nd.sure ⟨me, sv, term, vote, 2, me, commit, left, log ++ [(⟨term, zCm⟩ : En)], some ks, List.replicate 6 ((log.length : Int) + 1), List.replicate 6 0⟩) none (List.take log.length (List.drop 0 xs) ++ [En.t ⟨term, zCm⟩]) hL' hoL (by show (log ++ [_]).length ≤ _; rw [e1]; omega) rfl hsv hnx) ?_
              rintro r H' ⟨rfl, rfl⟩
              (conv => arg 3; whnf); repeat ((first | (with_reducible apply sT); rfl | (with_reducible apply sF); rfl | (with_reducible apply sE); rfl); conv => arg 3; whnf)
              refine sat_ret ⟨none, (List.take log.length (List.drop 0 xs) ++ [En.t ⟨term, zCm⟩]), by rw [eN]; exact hL', by rw [eN]; rfl, by rw [eN]; rfl⟩
      · have h1 : ¬ log.length < 200 := by have := of_decide_eq_false h1; omega
        have e2 : Nd.lead2 ⟨me, sv, term, vote, role, lead, commit, left, log, some ks, nxt, mat⟩ = ⟨me, sv, term, vote, 2, me, commit, left, log, some ks, List.replicate 6 ((log.length : Int) + 1), List.replicate 6 0⟩ := by
          show (if _ then _ else _) = _
          rw [if_neg h1]; rfl
        have eN : Nd.leadN ⟨me, sv, term, vote, role, lead, commit, left, log, some ks, nxt, mat⟩ = Nd.sure ⟨me, sv, term, vote, 2, me, commit, left, log, some ks, List.replicate 6 ((log.length : Int) + 1), List.replicate 6 0⟩ := by
          rw [Nd.leadN, e2]
        have hnx : ∀ to, 1 ≤ to ∧ to ≤ sv → 1 ≤ Nd.nx (Nd.sure ⟨me, sv, term, vote, 2, me, commit, left, log, some ks, List.replicate 6 ((log.length : Int) + 1), List.replicate 6 0⟩) to ∧ Nd.nx (Nd.sure ⟨me, sv, term, vote, 2, me, commit, left, log, some ks, List.replicate 6 ((log.length : Int) + 1), List.replicate 6 0⟩) to ≤ (log.length : Int) + 1 := by
          intro to hto
          have : Nd.nx (Nd.sure ⟨me, sv, term, vote, 2, me, commit, left, log, some ks, List.replicate 6 ((log.length : Int) + 1), List.replicate 6 0⟩) to = (log.length : Int) + 1 := by
            show ((List.replicate 6 ((log.length : Int) + 1))[to.toNat]?).getD 0 = _
            rw [List.getElem?_replicate, if_pos (by omega)]; rfl
          rw [this]; omega
        (conv => arg 3; whnf); repeat ((first | (with_reducible apply sT); rfl | (with_reducible apply sF); rfl | (with_reducible apply sE); rfl); conv => arg 3; whnf)
        refine sat_call (k_sure ⟨me, sv, term, vote, 2, me, commit, left, log, some ks, List.replicate 6 ((log.length : Int) + 1), List.replicate 6 0⟩ cap xs h (by dsimp only; omega) hsv hc rfl) ?_
        rintro r H' ⟨rfl, rfl⟩
        (conv => arg 3; whnf); repeat ((first | (with_reducible apply sT); rfl | (with_reducible apply sF); rfl | (with_reducible apply sE); rfl); conv => arg 3; whnf)
        refine sat_call (k_others_app (Nd.sure ⟨me, sv, term, vote, 2, me, commit, left, log, some ks, List.replicate 6 ((log.length : Int) + 1), List.replicate 6 0⟩) cap xs h ho (by show log.length ≤ _; omega) rfl hsv hnx) ?_
        rintro r H' ⟨rfl, rfl⟩
        (conv => arg 3; whnf); repeat ((first | (with_reducible apply sT); rfl | (with_reducible apply sF); rfl | (with_reducible apply sE); rfl); conv => arg 3; whnf)
        refine sat_ret ⟨cap, xs, by rw [eN]; exact h, by rw [eN]; rfl, by rw [eN]; rfl⟩
end Stk
