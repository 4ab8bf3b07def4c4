/- Messages that ask all others; what is sure. -/
import Derived.Test.YtfffephdhnoiaaaM4
namespace Stk
open Go
set_option maxRecDepth 100000
set_option linter.unusedSimpArgs false
set_option linter.unusedVariables false
set_option maxHeartbeats 4000000
theorem k_others_ask (n : Nd) (cap : Option Nat) (xs : List Tr) (h : LogR n.log xs cap) (hl : n.log.length ≤ 1000) (hsv : 1 ≤ n.sv ∧ n.sv ≤ 5) (ks : List Int) (hv : n.votes = some ks) :
    ACalls PP GG F.raft_Node_others [pt 0, .fn 59 [] [pt 3]] (n.H cap xs ++ [.var (pt 0)]) fun r H' => r = .sl 6 0 [] 0 (upTo n.me n.askM n.sv.toNat).length none ∧
      H' = [.var (nodeV n 4 cap), .gone, .gone, .var (pt 0), .row 40 xs, .map (kvT ks), .row 46 ((upTo n.me n.askM n.sv.toNat).map Mo.t)] := by
  have ka := fun to => k_ask n cap xs h hl to ks hv
  generalize n.askM = fM at *
  obtain ⟨me, sv, term, vote, role, lead, commit, left, log, votes, nxt, mat⟩ := n
  dsimp only at h hl hsv ka hv
  subst hv
  refine K.raft_Node_others.callsD rfl ?_
  (conv => arg 3; whnf); repeat ((first | (with_reducible apply sT); rfl | (with_reducible apply sF); rfl | (with_reducible apply sE); rfl); conv => arg 3; whnf)
  refine sat_loopOf mkX_ops (σ := OtSt sv) (fun x => [(0, pt 0), (1, .fn 59 [] [pt 3]), (5, .sl 4 0 [] 0 (upTo me fM x.k).length none), (6, ti ((x.k + 1 : Nat) : Int))])
    (fun x => Nd.H ⟨me, sv, term, vote, role, lead, commit, left, log, some ks, nxt, mat⟩ cap xs ++ [.var (pt 0), .row 46 ((upTo me fM x.k).map Mo.t)]) (fun x => sv.toNat - x.k)
    (fun ex fr' H' => ex = .exit 0 ∧ fr' = [(5, .sl 4 0 [] 0 (upTo me fM sv.toNat).length none)] ∧ H' = Nd.H ⟨me, sv, term, vote, role, lead, commit, left, log, some ks, nxt, mat⟩ cap xs ++ [.var (pt 0), .row 46 ((upTo me fM sv.toNat).map Mo.t)]) ⟨0, by simp; omega⟩ ?_ ?_
  · rintro ⟨k, hk⟩
    dsimp only
    have hul := upTo_len me fM k
    (conv => arg 3; whnf); repeat ((first | (with_reducible apply sT); rfl | (with_reducible apply sF); rfl | (with_reducible apply sE); rfl); conv => arg 3; whnf)
    refine sat_br (fun h1 => ?_) (fun h1 => ?_)
    · have h1 : ((k + 1 : Nat) : Int) ≤ sv := of_decide_eq_true h1
      (conv => arg 3; whnf); repeat ((first | (with_reducible apply sT); rfl | (with_reducible apply sF); rfl | (with_reducible apply sE); rfl); conv => arg 3; whnf)
      refine sat_br (fun h2 => ?_) (fun h2 => ?_)
      · have h2 : ¬ ((k + 1 : Nat) : Int) = me := by simpa using h2
        have hu : upTo me fM (k + 1) = upTo me fM k ++ [fM ((k + 1 : Nat) : Int)] := by rw [upTo, if_neg h2]
        (conv => arg 3; whnf); repeat ((first | (with_reducible apply sT); rfl | (with_reducible apply sF); rfl | (with_reducible apply sE); rfl); conv => arg 3; whnf)
        refine sat_call (ka _) ?_
        generalize fM ((k + 1 : Nat) : Int) = M at *
        rintro r H' ⟨rfl, rfl⟩
        have hul2 : (upTo me fM k ++ [M]).length = (List.map Mo.t (upTo me fM k) ++ [M.t]).length := by simp
        (conv => arg 3; whnf); repeat ((first | (with_reducible apply sT); rfl | (with_reducible apply sF); rfl | (with_reducible apply sE); rfl); conv => arg 3; whnf)
        have hl2 : ((upTo me fM k).map Mo.t).length = (upTo me fM k).length := by simp
        refine sat_asrt (by simp) ?_
        (conv => arg 3; whnf); repeat ((first | (with_reducible apply sT); rfl | (with_reducible apply sF); rfl | (with_reducible apply sE); rfl); conv => arg 3; whnf)
        refine sat_asrt (by simp [roomy]; omega) ?_
        (conv => arg 3; whnf); repeat ((first | (with_reducible apply sT); rfl | (with_reducible apply sF); rfl | (with_reducible apply sE); rfl); conv => arg 3; whnf)
        refine sat_br (fun h3 => ?_) (fun h3 => ?_)
        · (conv => arg 3; whnf); repeat ((first | (with_reducible apply sT); rfl | (with_reducible apply sF); rfl | (with_reducible apply sE); rfl); conv => arg 3; whnf)
          refine sat_rng (wrap64 (by omega) (by omega)) ?_
          refine sat_ret ⟨⟨k + 1, by omega⟩, ?_, ?_, by show sv.toNat - (k + 1) < sv.toNat - k; omega⟩
          · show _ = [_, _, (5, AV.sl _ 0 [] 0 (upTo me fM (k + 1)).length none), _]
            rw [hu, hul2]; rfl
          · show _ = _ ++ [_, AO.row 46 ((upTo me fM (k + 1)).map Mo.t)]
            rw [hu, List.map_append]; rfl
        · simp at h3
      · have h2 : ((k + 1 : Nat) : Int) = me := by simpa using h2
        have hu : upTo me fM (k + 1) = upTo me fM k := by rw [upTo, if_pos h2]
        (conv => arg 3; whnf); repeat ((first | (with_reducible apply sT); rfl | (with_reducible apply sF); rfl | (with_reducible apply sE); rfl); conv => arg 3; whnf)
        refine sat_rng (wrap64 (by omega) (by omega)) ?_
        refine sat_ret ⟨⟨k + 1, by omega⟩, ?_, ?_, by show sv.toNat - (k + 1) < sv.toNat - k; omega⟩
        · show _ = [_, _, (5, AV.sl _ 0 [] 0 (upTo me fM (k + 1)).length none), _]
          rw [hu]; rfl
        · show _ = _ ++ [_, AO.row 46 ((upTo me fM (k + 1)).map Mo.t)]
          rw [hu]; rfl
    · have h1 : ¬ ((k + 1 : Nat) : Int) ≤ sv := of_decide_eq_false h1
      have hk' : k = sv.toNat := by omega
      subst hk'
      (conv => arg 3; whnf); repeat ((first | (with_reducible apply sT); rfl | (with_reducible apply sF); rfl | (with_reducible apply sE); rfl); conv => arg 3; whnf)
      exact sat_ret ⟨rfl, rfl, rfl⟩
  · rintro ex fr' H' ⟨rfl, rfl, rfl⟩
    (conv => arg 3; whnf); repeat ((first | (with_reducible apply sT); rfl | (with_reducible apply sF); rfl | (with_reducible apply sE); rfl); conv => arg 3; whnf)
    exact sat_ret ⟨rfl, rfl⟩
/-- How many have an entry, up to one server. -/
def cntM (me : Int) (mat : List Int) (a : Int) : Nat → Int
  | 0 => 1
  | j + 1 => cntM me mat a j + (if ((j + 1 : Nat) : Int) ≠ me ∧ ((mat[j + 1]?).getD 0) ≥ a then 1 else 0)
theorem cntM_le (me : Int) (mat : List Int) (a : Int) : ∀ j, 1 ≤ cntM me mat a j ∧ cntM me mat a j ≤ j + 1
  | 0 => by simp [cntM]
  | j + 1 => by
    have := cntM_le me mat a j
    unfold cntM
    split <;> omega
def sureC (n : Nd) : Nat → Int
  | 0 => n.commit
  | a + 1 => if ((a + 1 : Nat) : Int) > n.commit ∧ termAt n.log ((a + 1 : Nat) : Int) = n.term then (if 2 * cntM n.me n.mat ((a + 1 : Nat) : Int) n.sv.toNat > n.sv then ((a + 1 : Nat) : Int) else sureC n a) else n.commit
def Nd.sure (n : Nd) : Nd := { n with commit := sureC n n.log.length }
structure SuSt (n : Nd) where
  a : Nat
  ha : a ≤ n.log.length
  h : sureC n a = sureC n n.log.length
structure CnSt (n : Nd) where
  j : Nat
  hj : (j : Int) ≤ n.sv
theorem k_sure (n : Nd) (cap : Option Nat) (xs : List Tr) (h : LogR n.log xs cap) (hl : n.log.length ≤ 1000) (hsv : 1 ≤ n.sv ∧ n.sv ≤ 5) (hc : 0 ≤ n.commit) (hm : n.mat.length = 6) :
    ACalls PP GG F.raft_Node_sure [pt 0] (n.H cap xs) fun r H' => r = .tup [] ∧ H' = n.sure.D n.g cap xs := by
  have kl := k_last n cap xs
  have kt := k_term n cap xs h
  have km := k_many n cap xs
  have e0 : n.sure = { n with commit := sureC n n.log.length } := rfl
  generalize n.sure = N at *
  generalize hC : sureC n n.log.length = C at *
  rcases n with ⟨me, sv, term, vote, role, lead, commit, left, log, _ | ks, nxt, mat⟩
  · dsimp only at h hl hsv hc hm kl km kt e0
    subst e0
    refine K.raft_Node_sure.callsD rfl ?_
    (conv => arg 3; whnf); repeat ((first | (with_reducible apply sT); rfl | (with_reducible apply sF); rfl | (with_reducible apply sE); rfl); conv => arg 3; whnf)
    refine sat_call kl ?_
    rintro r H' ⟨rfl, rfl⟩
    (conv => arg 3; whnf); repeat ((first | (with_reducible apply sT); rfl | (with_reducible apply sF); rfl | (with_reducible apply sE); rfl); conv => arg 3; whnf)
    refine sat_loopOf mkX_ops (σ := SuSt ⟨me, sv, term, vote, role, lead, commit, left, log, none, nxt, mat⟩) (fun x => [(0, pt 0), (2, ti x.a)]) (fun x => Nd.H ⟨me, sv, term, vote, role, lead, commit, left, log, none, nxt, mat⟩ cap xs) (fun x => x.a)
      (fun ex fr' H' => fr' = [] ∧ ((ex = .exit 0 ∧ H' = Nd.H ⟨me, sv, term, vote, role, lead, C, left, log, none, nxt, mat⟩ cap xs) ∨ (ex = .ret ∧ H' = [.var (nodeW ⟨me, sv, term, vote, role, lead, C, left, log, none, nxt, mat⟩ 3 0 cap), .gone, .gone, .row 40 xs]))) ⟨log.length, Nat.le_refl _, rfl⟩ ?_ ?_
    · rintro ⟨a, ha, hs⟩
      rw [hC] at hs
      dsimp only at ha ⊢
      (conv => arg 3; whnf); repeat ((first | (with_reducible apply sT); rfl | (with_reducible apply sF); rfl | (with_reducible apply sE); rfl); conv => arg 3; whnf)
      refine sat_br (fun h1 => ?_) (fun h1 => ?_)
      · have h1 : (a : Int) > commit := of_decide_eq_true h1
        obtain ⟨b, rfl⟩ : ∃ b, a = b + 1 := ⟨a - 1, by omega⟩
        (conv => arg 3; whnf); repeat ((first | (with_reducible apply sT); rfl | (with_reducible apply sF); rfl | (with_reducible apply sE); rfl); conv => arg 3; whnf)
        refine sat_call (kt _ (by omega) hl) ?_
        rintro r H' ⟨rfl, rfl⟩
        (conv => arg 3; whnf); repeat ((first | (with_reducible apply sT); rfl | (with_reducible apply sF); rfl | (with_reducible apply sE); rfl); conv => arg 3; whnf)
        refine sat_br (fun h2 => ?_) (fun h2 => ?_)
        · have h2 : termAt log ((b + 1 : Nat) : Int) = term := by simpa using h2
          have hs2 : (if 2 * cntM me mat ((b + 1 : Nat) : Int) sv.toNat > sv then ((b + 1 : Nat) : Int) else sureC ⟨me, sv, term, vote, role, lead, commit, left, log, none, nxt, mat⟩ b) = C := by
            rw [← hs, sureC]
            rw [if_pos (show ((b + 1 : Nat) : Int) > commit ∧ termAt log ((b + 1 : Nat) : Int) = term from ⟨h1, h2⟩)]
          (conv => arg 3; whnf); repeat ((first | (with_reducible apply sT); rfl | (with_reducible apply sF); rfl | (with_reducible apply sE); rfl); conv => arg 3; whnf)
          refine sat_loopOf mkX_ops (σ := CnSt ⟨me, sv, term, vote, role, lead, commit, left, log, none, nxt, mat⟩) (fun x => [(0, pt 0), (2, ti ((b + 1 : Nat) : Int)), (3, ti (cntM me mat ((b + 1 : Nat) : Int) x.j)), (4, ti ((x.j + 1 : Nat) : Int))]) (fun x => Nd.H ⟨me, sv, term, vote, role, lead, commit, left, log, none, nxt, mat⟩ cap xs) (fun x => sv.toNat - x.j)
            (fun ex fr' H' => ex = .exit 2 ∧ fr' = [(0, pt 0), (2, ti ((b + 1 : Nat) : Int)), (3, ti (cntM me mat ((b + 1 : Nat) : Int) sv.toNat))] ∧ H' = Nd.H ⟨me, sv, term, vote, role, lead, commit, left, log, none, nxt, mat⟩ cap xs) ⟨0, by simp; omega⟩ ?_ ?_
          · rintro ⟨j, hj⟩
            dsimp only at hj ⊢
            have hcl := cntM_le me mat ((b + 1 : Nat) : Int) j
            (conv => arg 3; whnf); repeat ((first | (with_reducible apply sT); rfl | (with_reducible apply sF); rfl | (with_reducible apply sE); rfl); conv => arg 3; whnf)
            refine sat_br (fun h3 => ?_) (fun h3 => ?_)
            · have h3 : ((j + 1 : Nat) : Int) ≤ sv := of_decide_eq_true h3
              have hjl : j + 1 < mat.length := by omega
              have hg : mat[j + 1]? = some mat[j + 1] := List.getElem?_eq_getElem hjl
              have hcu : cntM me mat ((b + 1 : Nat) : Int) (j + 1) = cntM me mat ((b + 1 : Nat) : Int) j + (if ((j + 1 : Nat) : Int) ≠ me ∧ mat[j + 1] ≥ ((b + 1 : Nat) : Int) then 1 else 0) := by
                rw [cntM, hg]; rfl
              generalize mat[j + 1] = y at hg hcu
              (conv => arg 3; whnf); repeat ((first | (with_reducible apply sT); rfl | (with_reducible apply sF); rfl | (with_reducible apply sE); rfl); conv => arg 3; whnf)
              refine sat_br (fun h4 => ?_) (fun h4 => ?_)
              · have h4 : ((j + 1 : Nat) : Int) ≠ me := by simpa using h4
                (conv => arg 3; whnf); repeat ((first | (with_reducible apply sT); rfl | (with_reducible apply sF); rfl | (with_reducible apply sE); rfl); conv => arg 3; whnf)
                refine sat_asrt (by simp; omega) ?_
                (conv => arg 3; whnf); repeat ((first | (with_reducible apply sT); rfl | (with_reducible apply sF); rfl | (with_reducible apply sE); rfl); conv => arg 3; whnf)
                refine sat_idx (i6 y) (by omega) (by rw [Int.toNat_natCast, Int.toNat_natCast, List.getElem?_map, hg]; rfl) ?_
                (conv => arg 3; whnf); repeat ((first | (with_reducible apply sT); rfl | (with_reducible apply sF); rfl | (with_reducible apply sE); rfl); conv => arg 3; whnf)
                refine sat_br (fun h5 => ?_) (fun h5 => ?_)
                · have h5 : y ≥ ((b + 1 : Nat) : Int) := of_decide_eq_true h5
                  rw [if_pos ⟨h4, h5⟩] at hcu
                  (conv => arg 3; whnf); repeat ((first | (with_reducible apply sT); rfl | (with_reducible apply sF); rfl | (with_reducible apply sE); rfl); conv => arg 3; whnf)
                  refine sat_rng (wrap64 (by omega) (by omega)) ?_
                  (conv => arg 3; whnf); repeat ((first | (with_reducible apply sT); rfl | (with_reducible apply sF); rfl | (with_reducible apply sE); rfl); conv => arg 3; whnf)
                  refine sat_rng (wrap64 (by omega) (by omega)) ?_
                  refine sat_ret ⟨⟨j + 1, h3⟩, ?_, rfl, by show sv.toNat - (j + 1) < sv.toNat - j; omega⟩
                  show _ = [_, _, (3, ti (cntM me mat ((b + 1 : Nat) : Int) (j + 1))), _]
                  rw [hcu]; rfl
                · have h5 : ¬ y ≥ ((b + 1 : Nat) : Int) := of_decide_eq_false h5
                  rw [if_neg (fun h => h5 h.2), Int.add_zero] at hcu
                  (conv => arg 3; whnf); repeat ((first | (with_reducible apply sT); rfl | (with_reducible apply sF); rfl | (with_reducible apply sE); rfl); conv => arg 3; whnf)
                  refine sat_rng (wrap64 (by omega) (by omega)) ?_
                  refine sat_ret ⟨⟨j + 1, h3⟩, ?_, rfl, by show sv.toNat - (j + 1) < sv.toNat - j; omega⟩
                  show _ = [_, _, (3, ti (cntM me mat ((b + 1 : Nat) : Int) (j + 1))), _]
                  rw [hcu]; rfl
              · have h4 : ((j + 1 : Nat) : Int) = me := by simpa using h4
                rw [if_neg (fun h => h.1 h4), Int.add_zero] at hcu
                (conv => arg 3; whnf); repeat ((first | (with_reducible apply sT); rfl | (with_reducible apply sF); rfl | (with_reducible apply sE); rfl); conv => arg 3; whnf)
                refine sat_rng (wrap64 (by omega) (by omega)) ?_
                refine sat_ret ⟨⟨j + 1, h3⟩, ?_, rfl, by show sv.toNat - (j + 1) < sv.toNat - j; omega⟩
                show _ = [_, _, (3, ti (cntM me mat ((b + 1 : Nat) : Int) (j + 1))), _]
                rw [hcu]; rfl
            · have h3 : ¬ ((j + 1 : Nat) : Int) ≤ sv := of_decide_eq_false h3
              have : j = sv.toNat := by omega
              subst this
              (conv => arg 3; whnf); repeat ((first | (with_reducible apply sT); rfl | (with_reducible apply sF); rfl | (with_reducible apply sE); rfl); conv => arg 3; whnf)
              exact sat_ret ⟨rfl, rfl, rfl⟩
          · rintro ex fr' H' ⟨rfl, rfl, rfl⟩
            have hcl := cntM_le me mat ((b + 1 : Nat) : Int) sv.toNat
            generalize cntM me mat ((b + 1 : Nat) : Int) sv.toNat = q at hs2 hcl ⊢
            (conv => arg 3; whnf); repeat ((first | (with_reducible apply sT); rfl | (with_reducible apply sF); rfl | (with_reducible apply sE); rfl); conv => arg 3; whnf)
            refine sat_call (km q (by omega)) ?_
            rintro r H' ⟨rfl, rfl⟩
            (conv => arg 3; whnf); repeat ((first | (with_reducible apply sT); rfl | (with_reducible apply sF); rfl | (with_reducible apply sE); rfl); conv => arg 3; whnf)
            refine sat_br (fun h3 => ?_) (fun h3 => ?_)
            · have h3 : 2 * q > sv := of_decide_eq_true h3
              rw [if_pos h3] at hs2
              (conv => arg 3; whnf); repeat ((first | (with_reducible apply sT); rfl | (with_reducible apply sF); rfl | (with_reducible apply sE); rfl); conv => arg 3; whnf)
              refine sat_ret ⟨rfl, .inr ⟨rfl, ?_⟩⟩
              rw [← hs2]
            · have h3 : ¬ 2 * q > sv := of_decide_eq_false h3
              rw [if_neg h3] at hs2
              (conv => arg 3; whnf); repeat ((first | (with_reducible apply sT); rfl | (with_reducible apply sF); rfl | (with_reducible apply sE); rfl); conv => arg 3; whnf)
              refine sat_rng (wrap64 (by omega) (by omega)) ?_
              exact sat_ret ⟨⟨b, by simp only; omega, by rw [hs2, hC]⟩, by show _ = [_, (2, ti _)]; rw [show ((b + 1 : Nat) : Int) - 1 = (b : Int) by omega]; rfl, rfl, Nat.lt_succ_self b⟩
        · have h2 : ¬ termAt log ((b + 1 : Nat) : Int) = term := by simpa using h2
          have hs2 : commit = C := by
            rw [← hs, sureC]
            rw [if_neg (show ¬ (((b + 1 : Nat) : Int) > commit ∧ termAt log ((b + 1 : Nat) : Int) = term) from fun h => h2 h.2)]
          (conv => arg 3; whnf); repeat ((first | (with_reducible apply sT); rfl | (with_reducible apply sF); rfl | (with_reducible apply sE); rfl); conv => arg 3; whnf)
          refine sat_ret ⟨rfl, .inl ⟨rfl, ?_⟩⟩
          rw [← hs2]
      · have h1 : ¬ (a : Int) > commit := of_decide_eq_false h1
        have hs2 : commit = C := by
          cases a with
          | zero => exact hs
          | succ b =>
            rw [← hs, sureC]
            rw [if_neg (show ¬ (((b + 1 : Nat) : Int) > commit ∧ termAt log ((b + 1 : Nat) : Int) = term) from fun h => h1 h.1)]
        (conv => arg 3; whnf); repeat ((first | (with_reducible apply sT); rfl | (with_reducible apply sF); rfl | (with_reducible apply sE); rfl); conv => arg 3; whnf)
        refine sat_ret ⟨rfl, .inl ⟨rfl, ?_⟩⟩
        rw [← hs2]
    · rintro ex fr' H' ⟨rfl, ⟨rfl, rfl⟩ | ⟨rfl, rfl⟩⟩
      · (conv => arg 3; whnf); repeat ((first | (with_reducible apply sT); rfl | (with_reducible apply sF); rfl | (with_reducible apply sE); rfl); conv => arg 3; whnf)
        exact sat_ret ⟨rfl, rfl⟩
      · (conv => arg 3; whnf); repeat ((first | (with_reducible apply sT); rfl | (with_reducible apply sF); rfl | (with_reducible apply sE); rfl); conv => arg 3; whnf)
        exact sat_ret ⟨rfl, rfl⟩
  · dsimp only at h hl hsv hc hm kl km kt e0
    subst e0
    refine K.raft_Node_sure.callsD rfl ?_
    (conv => arg 3; whnf); repeat ((first | (with_reducible apply sT); rfl | (with_reducible apply sF); rfl | (with_reducible apply sE); rfl); conv => arg 3; whnf)
    refine sat_call kl ?_
    rintro r H' ⟨rfl, rfl⟩
    (conv => arg 3; whnf); repeat ((first | (with_reducible apply sT); rfl | (with_reducible apply sF); rfl | (with_reducible apply sE); rfl); conv => arg 3; whnf)
    refine sat_loopOf mkX_ops (σ := SuSt ⟨me, sv, term, vote, role, lead, commit, left, log, some ks, nxt, mat⟩) (fun x => [(0, pt 0), (2, ti x.a)]) (fun x => Nd.H ⟨me, sv, term, vote, role, lead, commit, left, log, some ks, nxt, mat⟩ cap xs) (fun x => x.a)
      (fun ex fr' H' => fr' = [] ∧ ((ex = .exit 0 ∧ H' = Nd.H ⟨me, sv, term, vote, role, lead, C, left, log, some ks, nxt, mat⟩ cap xs) ∨ (ex = .ret ∧ H' = [.var (nodeW ⟨me, sv, term, vote, role, lead, C, left, log, some ks, nxt, mat⟩ 4 2 cap), .gone, .map (kvT ks), .gone, .row 40 xs, .gone]))) ⟨log.length, Nat.le_refl _, rfl⟩ ?_ ?_
    · rintro ⟨a, ha, hs⟩
      rw [hC] at hs
      dsimp only at ha ⊢
      (conv => arg 3; whnf); repeat ((first | (with_reducible apply sT); rfl | (with_reducible apply sF); rfl | (with_reducible apply sE); rfl); conv => arg 3; whnf)
      refine sat_br (fun h1 => ?_) (fun h1 => ?_)
      · have h1 : (a : Int) > commit := of_decide_eq_true h1
        obtain ⟨b, rfl⟩ : ∃ b, a = b + 1 := ⟨a - 1, by omega⟩
        (conv => arg 3; whnf); repeat ((first | (with_reducible apply sT); rfl | (with_reducible apply sF); rfl | (with_reducible apply sE); rfl); conv => arg 3; whnf)
        refine sat_call (kt _ (by omega) hl) ?_
        rintro r H' ⟨rfl, rfl⟩
        (conv => arg 3; whnf); repeat ((first | (with_reducible apply sT); rfl | (with_reducible apply sF); rfl | (with_reducible apply sE); rfl); conv => arg 3; whnf)
        refine sat_br (fun h2 => ?_) (fun h2 => ?_)
        · have h2 : termAt log ((b + 1 : Nat) : Int) = term := by simpa using h2
          have hs2 : (if 2 * cntM me mat ((b + 1 : Nat) : Int) sv.toNat > sv then ((b + 1 : Nat) : Int) else sureC ⟨me, sv, term, vote, role, lead, commit, left, log, some ks, nxt, mat⟩ b) = C := by
            rw [← hs, sureC]
            rw [if_pos (show ((b + 1 : Nat) : Int) > commit ∧ termAt log ((b + 1 : Nat) : Int) = term from ⟨h1, h2⟩)]
          (conv => arg 3; whnf); repeat ((first | (with_reducible apply sT); rfl | (with_reducible apply sF); rfl | (with_reducible apply sE); rfl); conv => arg 3; whnf)
          refine sat_loopOf mkX_ops (σ := CnSt ⟨me, sv, term, vote, role, lead, commit, left, log, some ks, nxt, mat⟩) (fun x => [(0, pt 0), (2, ti ((b + 1 : Nat) : Int)), (3, ti (cntM me mat ((b + 1 : Nat) : Int) x.j)), (4, ti ((x.j + 1 : Nat) : Int))]) (fun x => Nd.H ⟨me, sv, term, vote, role, lead, commit, left, log, some ks, nxt, mat⟩ cap xs) (fun x => sv.toNat - x.j)
            (fun ex fr' H' => ex = .exit 2 ∧ fr' = [(0, pt 0), (2, ti ((b + 1 : Nat) : Int)), (3, ti (cntM me mat ((b + 1 : Nat) : Int) sv.toNat))] ∧ H' = Nd.H ⟨me, sv, term, vote, role, lead, commit, left, log, some ks, nxt, mat⟩ cap xs) ⟨0, by simp; omega⟩ ?_ ?_
          · rintro ⟨j, hj⟩
            dsimp only at hj ⊢
            have hcl := cntM_le me mat ((b + 1 : Nat) : Int) j
            (conv => arg 3; whnf); repeat ((first | (with_reducible apply sT); rfl | (with_reducible apply sF); rfl | (with_reducible apply sE); rfl); conv => arg 3; whnf)
            refine sat_br (fun h3 => ?_) (fun h3 => ?_)
            · have h3 : ((j + 1 : Nat) : Int) ≤ sv := of_decide_eq_true h3
              have hjl : j + 1 < mat.length := by omega
              have hg : mat[j + 1]? = some mat[j + 1] := List.getElem?_eq_getElem hjl
              have hcu : cntM me mat ((b + 1 : Nat) : Int) (j + 1) = cntM me mat ((b + 1 : Nat) : Int) j + (if ((j + 1 : Nat) : Int) ≠ me ∧ mat[j + 1] ≥ ((b + 1 : Nat) : Int) then 1 else 0) := by
                rw [cntM, hg]; rfl
              generalize mat[j + 1] = y at hg hcu
              (conv => arg 3; whnf); repeat ((first | (with_reducible apply sT); rfl | (with_reducible apply sF); rfl | (with_reducible apply sE); rfl); conv => arg 3; whnf)
              refine sat_br (fun h4 => ?_) (fun h4 => ?_)
              · have h4 : ((j + 1 : Nat) : Int) ≠ me := by simpa using h4
                (conv => arg 3; whnf); repeat ((first | (with_reducible apply sT); rfl | (with_reducible apply sF); rfl | (with_reducible apply sE); rfl); conv => arg 3; whnf)
                refine sat_asrt (by simp; omega) ?_
                (conv => arg 3; whnf); repeat ((first | (with_reducible apply sT); rfl | (with_reducible apply sF); rfl | (with_reducible apply sE); rfl); conv => arg 3; whnf)
                refine sat_idx (i6 y) (by omega) (by rw [Int.toNat_natCast, Int.toNat_natCast, List.getElem?_map, hg]; rfl) ?_
                (conv => arg 3; whnf); repeat ((first | (with_reducible apply sT); rfl | (with_reducible apply sF); rfl | (with_reducible apply sE); rfl); conv => arg 3; whnf)
                refine sat_br (fun h5 => ?_) (fun h5 => ?_)
                · have h5 : y ≥ ((b + 1 : Nat) : Int) := of_decide_eq_true h5
                  rw [if_pos ⟨h4, h5⟩] at hcu
                  (conv => arg 3; whnf); repeat ((first | (with_reducible apply sT); rfl | (with_reducible apply sF); rfl | (with_reducible apply sE); rfl); conv => arg 3; whnf)
                  refine sat_rng (wrap64 (by omega) (by omega)) ?_
                  (conv => arg 3; whnf); repeat ((first | (with_reducible apply sT); rfl | (with_reducible apply sF); rfl | (with_reducible apply sE); rfl); conv => arg 3; whnf)
                  refine sat_rng (wrap64 (by omega) (by omega)) ?_
                  refine sat_ret ⟨⟨j + 1, h3⟩, ?_, rfl, by show sv.toNat - (j + 1) < sv.toNat - j; omega⟩
                  show _ = [_, _, (3, ti (cntM me mat ((b + 1 : Nat) : Int) (j + 1))), _]
                  rw [hcu]; rfl
                · have h5 : ¬ y ≥ ((b + 1 : Nat) : Int) := of_decide_eq_false h5
                  rw [if_neg (fun h => h5 h.2), Int.add_zero] at hcu
                  (conv => arg 3; whnf); repeat ((first | (with_reducible apply sT); rfl | (with_reducible apply sF); rfl | (with_reducible apply sE); rfl); conv => arg 3; whnf)
                  refine sat_rng (wrap64 (by omega) (by omega)) ?_
                  refine sat_ret ⟨⟨j + 1, h3⟩, ?_, rfl, by show sv.toNat - (j + 1) < sv.toNat - j; omega⟩
                  show _ = [_, _, (3, ti (cntM me mat ((b + 1 : Nat) : Int) (j + 1))), _]
                  rw [hcu]; rfl
              · have h4 : ((j + 1 : Nat) : Int) = me := by simpa using h4
                rw [if_neg (fun h => h.1 h4), Int.add_zero] at hcu
                (conv => arg 3; whnf); repeat ((first | (with_reducible apply sT); rfl | (with_reducible apply sF); rfl | (with_reducible apply sE); rfl); conv => arg 3; whnf)
                refine sat_rng (wrap64 (by omega) (by omega)) ?_
                refine sat_ret ⟨⟨j + 1, h3⟩, ?_, rfl, by show sv.toNat - (j + 1) < sv.toNat - j; omega⟩
                show _ = [_, _, (3, ti (cntM me mat ((b + 1 : Nat) : Int) (j + 1))), _]
                rw [hcu]; rfl
            · have h3 : ¬ ((j + 1 : Nat) : Int) ≤ sv := of_decide_eq_false h3
              have : j = sv.toNat := by omega
              subst this
              (conv => arg 3; whnf); repeat ((first | (with_reducible apply sT); rfl | (with_reducible apply sF); rfl | (with_reducible apply sE); rfl); conv => arg 3; whnf)
              exact sat_ret ⟨rfl, rfl, rfl⟩
          · rintro ex fr' H' ⟨rfl, rfl, rfl⟩
            have hcl := cntM_le me mat ((b + 1 : Nat) : Int) sv.toNat
            generalize cntM me mat ((b + 1 : Nat) : Int) sv.toNat = q at hs2 hcl ⊢
            (conv => arg 3; whnf); repeat ((first | (with_reducible apply sT); rfl | (with_reducible apply sF); rfl | (with_reducible apply sE); rfl); conv => arg 3; whnf)
            refine sat_call (km q (by omega)) ?_
            rintro r H' ⟨rfl, rfl⟩
            (conv => arg 3; whnf); repeat ((first | (with_reducible apply sT); rfl | (with_reducible apply sF); rfl | (with_reducible apply sE); rfl); conv => arg 3; whnf)
            refine sat_br (fun h3 => ?_) (fun h3 => ?_)
            · have h3 : 2 * q > sv := of_decide_eq_true h3
              rw [if_pos h3] at hs2
              (conv => arg 3; whnf); repeat ((first | (with_reducible apply sT); rfl | (with_reducible apply sF); rfl | (with_reducible apply sE); rfl); conv => arg 3; whnf)
              refine sat_ret ⟨rfl, .inr ⟨rfl, ?_⟩⟩
              rw [← hs2]
            · have h3 : ¬ 2 * q > sv := of_decide_eq_false h3
              rw [if_neg h3] at hs2
              (conv => arg 3; whnf); repeat ((first | (with_reducible apply sT); rfl | (with_reducible apply sF); rfl | (with_reducible apply sE); rfl); conv => arg 3; whnf)
              refine sat_rng (wrap64 (by omega) (by omega)) ?_
              exact sat_ret ⟨⟨b, by simp only; omega, by rw [hs2, hC]⟩, by show _ = [_, (2, ti _)]; rw [show ((b + 1 : Nat) : Int) - 1 = (b : Int) by omega]; rfl, rfl, Nat.lt_succ_self b⟩
        · have h2 : ¬ termAt log ((b + 1 : Nat) : Int) = term := by simpa using h2
          have hs2 : commit = C := by
            rw [← hs, sureC]
            rw [if_neg (show ¬ (((b + 1 : Nat) : Int) > commit ∧ termAt log ((b + 1 : Nat) : Int) = term) from fun h => h2 h.2)]
          (conv => arg 3; whnf); repeat ((first | (with_reducible apply sT); rfl | (with_reducible apply sF); rfl | (with_reducible apply sE); rfl); conv => arg 3; whnf)
          refine sat_ret ⟨rfl, .inl ⟨rfl, ?_⟩⟩
          rw [← hs2]
      · have h1 : ¬ (a : Int) > commit := of_decide_eq_false h1
        have hs2 : commit = C := by
          cases a with
          | zero => exact hs
          | succ b =>
            rw [← hs, sureC]
            rw [if_neg (show ¬ (((b + 1 : Nat) : Int) > commit ∧ termAt log ((b + 1 : Nat) : Int) = term) from fun h => h1 h.1)]
        (conv => arg 3; whnf); repeat ((first | (with_reducible apply sT); rfl | (with_reducible apply sF); rfl | (with_reducible apply sE); rfl); conv => arg 3; whnf)
        refine sat_ret ⟨rfl, .inl ⟨rfl, ?_⟩⟩
        rw [← hs2]
    · rintro ex fr' H' ⟨rfl, ⟨rfl, rfl⟩ | ⟨rfl, rfl⟩⟩
      · (conv => arg 3; whnf); repeat ((first | (with_reducible apply sT); rfl | (with_reducible apply sF); rfl | (with_reducible apply sE); rfl); conv => arg 3; whnf)
        exact sat_ret ⟨rfl, rfl⟩
      · (conv => arg 3; whnf); repeat ((first | (with_reducible apply sT); rfl | (with_reducible apply sF); rfl | (with_reducible apply sE); rfl); conv => arg 3; whnf)
        exact sat_ret ⟨rfl, rfl⟩
end Stk
