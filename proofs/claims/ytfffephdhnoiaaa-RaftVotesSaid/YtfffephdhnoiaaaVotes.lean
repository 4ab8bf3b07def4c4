/- RaftVotes: a server gives its vote once in a term, also if it crashes in between; its term never becomes less, nor does what is sure, but by a crash. -/
import Derived.Test.YtfffephdhnoiaaaVnt
import Derived.Test.YtfffephdhnoiaaaVnf
import Derived.Test.YtfffephdhnoiaaaVst
import Derived.Test.YtfffephdhnoiaaaVsf
namespace Stk
open Go
set_option maxRecDepth 100000
set_option linter.unusedSimpArgs false
set_option linter.unusedVariables false
set_option maxHeartbeats 16000000
theorem rv_round (me sv term0 vote0 : Int) (f0 : Bool) (L0 : List En) (g0 : Bool) (X : List Tr) (hX : ∀ y ∈ X, TrD DoD y) (hXl : X.length ≤ 2 ^ 50) (x : RvSt me sv X) :
    sat (mkX PP GG I.law24_RaftVotes.ntmps) (roundP (rvFr me sv g0 X) (rvHs me sv term0 vote0 f0 L0 X) (fun x => X.length - x.i) x (rvQ me sv term0 vote0 f0 L0 X)) (roundR [2, 7, 5, 8, 9, 53, 54, 55] [4] [2, 4] rvBody (rvFr me sv g0 X x) (rvHs me sv term0 vote0 f0 L0 X x)) := by
  rcases Nat.lt_or_ge x.i X.length with h1 | h1
  · have hu : X[x.i]? = some X[x.i] := List.getElem?_eq_getElem h1
    have hy := hX _ (List.mem_of_getElem? hu)
    generalize X[x.i] = y at hu hy
    obtain ⟨_, rfl, y0, _, rfl, ⟨what, rfl, w0⟩, y1, _, rfl, ⟨draw, rfl, wd⟩, y2, _, rfl, hm, y3, _, rfl, hc, y4, _, rfl, ⟨near, rfl⟩, rfl⟩ := hy
    obtain ⟨m, fm, gm, rfl, hes, hml, hk0⟩ := ms_of hm
    obtain ⟨cc, rfl, hcc⟩ := cm_of hc
    by_cases hv : x.n.votes = none
    · cases near
      · exact rv_nf me sv term0 vote0 f0 L0 g0 X hXl x hv h1 what draw wd m fm gm hes hml hk0 cc hu
      · exact rv_nt me sv term0 vote0 f0 L0 g0 X hXl x hv h1 what draw wd m fm gm hes hml hk0 cc hu
    · cases near
      · exact rv_sf me sv term0 vote0 f0 L0 g0 X hXl x hv h1 what draw wd m fm gm hes hml hk0 cc hu
      · exact rv_st me sv term0 vote0 f0 L0 g0 X hXl x hv h1 what draw wd m fm gm hes hml hk0 cc hu
  · obtain ⟨i, ⟨nme, nsv, term, vote, role, lead, commit, nleft, log, _ | ks, nxt, mat⟩, cap, xs, vm, hi, hL, hinv, hleft, hvi, eme, esv⟩ := x
    all_goals
      dsimp only at h1
      (conv => arg 3; whnf); repeat ((first | (with_reducible apply sT); rfl | (with_reducible apply sF); rfl | (with_reducible apply sE); rfl); conv => arg 3; whnf)
      refine sat_brF (by simp; omega) ?_
      (conv => arg 3; whnf); repeat ((first | (with_reducible apply sT); rfl | (with_reducible apply sF); rfl | (with_reducible apply sE); rfl); conv => arg 3; whnf)
      exact sat_ret ⟨rfl, rfl, ⟨i, _, cap, xs, vm, hi, hL, hinv, hleft, hvi, eme, esv⟩, .inl rfl⟩
theorem l_votes (x0 x1 : Tr) (h0 : TrD StD x0) (h1 : TrD (.sl 88 DoD) x1) : ACalls PP GG F.law24_RaftVotes (toAVs [x0, x1]) [] fun r _ => r = .t (.bool true) := by
  obtain ⟨_, rfl, y0, _, rfl, ⟨me, rfl, w0⟩, y1, _, rfl, ⟨sv, rfl, w1⟩, y2, _, rfl, ⟨term0, rfl, w2⟩, y3, _, rfl, ⟨vote0, rfl, w3⟩, y4, _, rfl, ⟨f0, E0, rfl, _, hE, hEs⟩, rfl⟩ := h0
  obtain ⟨L0, rfl, hL0⟩ := es_of hEs
  obtain ⟨g0, X, rfl, _, hXl, hX⟩ := h1
  have hE1 : (esT L0).length * (TyD.bytes EnD) ≤ 140737488351232 := hE
  rw [show (esT L0).length = L0.length by simp, show TyD.bytes EnD = 112 from by decide] at hE1
  have hX1 : X.length * (TyD.bytes DoD) ≤ 140737488351232 := hXl
  rw [show TyD.bytes DoD = 304 from by decide] at hX1
  refine K.law24_RaftVotes.callsC rfl ?_
  (conv => arg 3; whnf); repeat ((first | (with_reducible apply sT); rfl | (with_reducible apply sF); rfl | (with_reducible apply sE); rfl); conv => arg 3; whnf)
  refine sat_call k_awake ?_
  rintro r H' ⟨rfl, rfl⟩
  (conv => arg 3; whnf); repeat ((first | (with_reducible apply sT); rfl | (with_reducible apply sF); rfl | (with_reducible apply sE); rfl); conv => arg 3; whnf)
  refine sat_call (k_new me sv term0 vote0 L0 hL0 (by omega) 0 (by decide)) ?_
  rintro r H' (⟨hok, rfl, rfl⟩ | ⟨hno, rfl, rfl⟩)
  rotate_left
  · (conv => arg 3; whnf); repeat ((first | (with_reducible apply sT); rfl | (with_reducible apply sF); rfl | (with_reducible apply sE); rfl); conv => arg 3; whnf)
    exact sat_ret rfl
  obtain ⟨hinv, hleft⟩ := new_inv hok hL0 0
  have goal : ∀ (vm0 : List (Int × Int)), VI vm0 (newN me sv term0 vote0 L0 (pat 0)) → True := fun _ _ => trivial
  (conv => arg 3; whnf); repeat ((first | (with_reducible apply sT); rfl | (with_reducible apply sF); rfl | (with_reducible apply sE); rfl); conv => arg 3; whnf)
  refine sat_br (fun hv0 => ?_) (fun hv0 => ?_)
  · have hv0 : vote0 > 0 := of_decide_eq_true hv0
    (conv => arg 3; whnf); repeat ((first | (with_reducible apply sT); rfl | (with_reducible apply sF); rfl | (with_reducible apply sE); rfl); conv => arg 3; whnf)
    refine sat_asrt rfl ?_
    (conv => arg 3; whnf); repeat ((first | (with_reducible apply sT); rfl | (with_reducible apply sF); rfl | (with_reducible apply sE); rfl); conv => arg 3; whnf)
    rw [show mput (i6 term0) (i6 vote0) [] = VT [(term0, vote0)] from rfl]
    have hvi : VI [(term0, vote0)] (newN me sv term0 vote0 L0 (pat 0)) := fun p hp => by
      simp at hp; subst hp; exact ⟨Int.le_refl _, fun _ => rfl, by dsimp only; omega⟩
    generalize [(term0, vote0)] = vm0 at hvi ⊢
    refine sat_loopOf mkX_ops (σ := RvSt me sv X) (rvFr me sv g0 X) (rvHs me sv term0 vote0 f0 L0 X) (fun x => X.length - x.i) (rvQ me sv term0 vote0 f0 L0 X) ⟨0, newN me sv term0 vote0 L0 (pat 0), some L0.length, esT (owned L0), vm0, Nat.zero_le _, by have := LogR.full (owned L0); rw [owned_len] at this; exact this, hinv, hleft, hvi, rfl, rfl⟩ ?_ ?_
    · intro x
      exact rv_round me sv term0 vote0 f0 L0 g0 X hX (by omega) x
    · rintro ex fr' H' ⟨rfl, rfl, ⟨i, ⟨nme, nsv, term, vote, role, lead, commit, nleft, log, _ | ks, nxt, mat⟩, cap, xs, vm, _, _, _, _, _, _, _⟩, rfl | ⟨y, rfl⟩⟩
      all_goals
        (conv => arg 3; whnf); repeat ((first | (with_reducible apply sT); rfl | (with_reducible apply sF); rfl | (with_reducible apply sE); rfl); conv => arg 3; whnf)
        exact sat_ret rfl
  · (conv => arg 3; whnf); repeat ((first | (with_reducible apply sT); rfl | (with_reducible apply sF); rfl | (with_reducible apply sE); rfl); conv => arg 3; whnf)
    rw [show ([] : List (Tr × Tr)) = VT [] from rfl]
    have hvi : VI [] (newN me sv term0 vote0 L0 (pat 0)) := fun p hp => by cases hp
    generalize ([] : List (Int × Int)) = vm0 at hvi ⊢
    refine sat_loopOf mkX_ops (σ := RvSt me sv X) (rvFr me sv g0 X) (rvHs me sv term0 vote0 f0 L0 X) (fun x => X.length - x.i) (rvQ me sv term0 vote0 f0 L0 X) ⟨0, newN me sv term0 vote0 L0 (pat 0), some L0.length, esT (owned L0), vm0, Nat.zero_le _, by have := LogR.full (owned L0); rw [owned_len] at this; exact this, hinv, hleft, hvi, rfl, rfl⟩ ?_ ?_
    · intro x
      exact rv_round me sv term0 vote0 f0 L0 g0 X hX (by omega) x
    · rintro ex fr' H' ⟨rfl, rfl, ⟨i, ⟨nme, nsv, term, vote, role, lead, commit, nleft, log, _ | ks, nxt, mat⟩, cap, xs, vm, _, _, _, _, _, _, _⟩, rfl | ⟨y, rfl⟩⟩
      all_goals
        (conv => arg 3; whnf); repeat ((first | (with_reducible apply sT); rfl | (with_reducible apply sF); rfl | (with_reducible apply sE); rfl); conv => arg 3; whnf)
        exact sat_ret rfl
end Stk
