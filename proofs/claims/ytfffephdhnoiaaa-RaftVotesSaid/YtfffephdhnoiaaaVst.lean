/- A round of the law of votes: one of its four cases. -/
import Derived.Test.YtfffephdhnoiaaaM14
namespace Stk
open Go
set_option maxRecDepth 100000
set_option linter.unusedSimpArgs false
set_option linter.unusedVariables false
set_option maxHeartbeats 16000000
theorem rv_st (me sv term0 vote0 : Int) (f0 : Bool) (L0 : List En) (g0 : Bool) (X : List Tr) (hXl : X.length ≤ 2 ^ 50) (x : RvSt me sv X) (hv : x.n.votes ≠ none) (h1 : x.i < X.length) (what draw : Int) (wd : (Lit.int .i64 draw).wf = true) (m : Mi) (fm gm : Bool) (hes : EsOK m.es) (hml : m.es.length * 112 ≤ 2 ^ 47) (hk0 : 0 ≤ m.kind ∧ m.kind ≤ 255) (cc : Cm)
    (hu : X[x.i]? = some (.agg [i6 what, i6 draw, m.t fm gm, cc.t, .bool true])) :
    sat (mkX PP GG I.law24_RaftVotes.ntmps) (roundP (rvFr me sv g0 X) (rvHs me sv term0 vote0 f0 L0 X) (fun x => X.length - x.i) x (rvQ me sv term0 vote0 f0 L0 X)) (roundR [2, 7, 5, 8, 9, 53, 54, 55] [4] [2, 4] rvBody (rvFr me sv g0 X x) (rvHs me sv term0 vote0 f0 L0 X x)) := by
  obtain ⟨Q, hQ⟩ : ∃ Q, Q = roundP (rvFr me sv g0 X) (rvHs me sv term0 vote0 f0 L0 X) (fun x => X.length - x.i) x (rvQ me sv term0 vote0 f0 L0 X) := ⟨_, rfl⟩
  rw [← hQ]
  have hnorm : ∀ (y : RvSt me sv X), y.i = x.i + 1 → x.i < X.length → ∀ fr' H', fr' = rvFr me sv g0 X y → H' = rvHs me sv term0 vote0 f0 L0 X y → Q .normal fr' H' := by
    intro y hy hlt fr' H' h1 h2
    subst hQ
    exact ⟨y, h1, h2, by show X.length - y.i < X.length - x.i; omega⟩
  have hexit : ∀ H', (∃ x : RvSt me sv X, H' = rvHs me sv term0 vote0 f0 L0 X x ∨ ∃ y : Tr, H' = rvHs me sv term0 vote0 f0 L0 X x ++ [.var (.t y)]) → Q (.exit 0) [(4, .undef)] H' := by
    intro H' h
    subst hQ
    exact ⟨rfl, rfl, h⟩
  clear hQ
  obtain ⟨i, ⟨nme, nsv, term, vote, role, lead, commit, nleft, log, votes, nxt, mat⟩, cap, xs, vm, hi, hL, hinv, hleft, hvi, eme, esv⟩ := x
  dsimp only at hnorm hv h1 hu
  obtain ⟨ks, rfl⟩ : ∃ ks, votes = some ks := Option.ne_none_iff_exists'.1 hv
  dsimp only at hL hinv hleft hvi eme esv
  subst eme esv
  have hsv := hinv.li.hsv
  dsimp only at hsv
  show sat (mkX PP GG I.law24_RaftVotes.ntmps) Q (roundR [2, 7, 5, 8, 9, 53, 54, 55] [4] [2, 4] rvBody [(2, pt 0), (7, .mp 1), (5, pt 2), (8, ti term), (9, ti commit), (53, .t (.sl g0 88 X)), (54, ti (X.length : Int)), (55, ti (i : Int))] (RH (rvS nme nsv term0 vote0 f0 L0) vm ⟨nme, nsv, term, vote, role, lead, commit, nleft, log, some ks, nxt, mat⟩ cap xs))
  (conv => arg 3; whnf); repeat ((first | (with_reducible apply sT); rfl | (with_reducible apply sF); rfl | (with_reducible apply sE); rfl); conv => arg 3; whnf)
  refine sat_brT (by simp; omega) ?_
  (conv => arg 3; whnf); repeat ((first | (with_reducible apply sT); rfl | (with_reducible apply sF); rfl | (with_reducible apply sE); rfl); conv => arg 3; whnf)
  refine sat_idx (.agg [i6 what, i6 draw, m.t fm gm, cc.t, .bool true]) (by omega) (by rw [Int.toNat_natCast]; exact hu) ?_
  (conv => arg 3; whnf); repeat ((first | (with_reducible apply sT); rfl | (with_reducible apply sF); rfl | (with_reducible apply sE); rfl); conv => arg 3; whnf)
  refine sat_br (fun h2 => ?_) (fun h2 => ?_)
  · (conv => arg 3; whnf); repeat ((first | (with_reducible apply sT); rfl | (with_reducible apply sF); rfl | (with_reducible apply sE); rfl); conv => arg 3; whnf)
    exact sat_ret (hexit _ ⟨⟨i, ⟨nme, nsv, term, vote, role, lead, commit, nleft, log, some ks, nxt, mat⟩, cap, xs, vm, hi, hL, hinv, hleft, hvi, rfl, rfl⟩, .inr ⟨_, rfl⟩⟩)
  (conv => arg 3; whnf); repeat ((first | (with_reducible apply sT); rfl | (with_reducible apply sF); rfl | (with_reducible apply sE); rfl); conv => arg 3; whnf)
  refine sat_call (k_copied m hes hml) ?_
  rintro r H' ⟨rfl, rfl⟩
  (conv => arg 3; whnf); repeat ((first | (with_reducible apply sT); rfl | (with_reducible apply sF); rfl | (with_reducible apply sE); rfl); conv => arg 3; whnf)
  repeat (first | ((with_reducible refine sat_rngw ?_); ((conv => arg 3; whnf); repeat ((first | (with_reducible apply sT); rfl | (with_reducible apply sF); rfl | (with_reducible apply sE); rfl); conv => arg 3; whnf))) | ((with_reducible refine sat_asrt ?_ ?_); (first | rfl | (simp; done) | (simp; omega)); ((conv => arg 3; whnf); repeat ((first | (with_reducible apply sT); rfl | (with_reducible apply sF); rfl | (with_reducible apply sE); rfl); conv => arg 3; whnf))))
  refine sat_br (fun k0 => ?_) (fun k0 => ?_)
  · (conv => arg 3; whnf); repeat ((first | (with_reducible apply sT); rfl | (with_reducible apply sF); rfl | (with_reducible apply sE); rfl); conv => arg 3; whnf)
    refine sat_call (k_TickE ⟨nme, nsv, term, vote, role, lead, commit, nleft, log, some ks, nxt, mat⟩ cap xs hL hinv hleft draw (wf_i64 wd)) ?_
    rintro r H' ⟨N', ms, ev, hfew, cap', xs', c, hL2, rfl, rfl⟩
    have hinv2 := ev.inv
    have hleft2 := ev.left
    have hvi2 := VI.step hvi ev
    have hT := ev.term
    have hC := ev.commit
    have hM := ev.msg
    have heme := ev.me
    have hesv := ev.sv
    clear ev
    obtain ⟨Nme, Nsv, Nterm, Nvote, Nrole, Nlead, Ncommit, Nleft, Nlog, Nvotes, Nnxt, Nmat⟩ := N'
    dsimp only at hL2 hinv2 hleft2 hvi2
    rcases Nvotes with _ | kN
    · obtain ⟨e1, e2⟩ := And.intro heme.symm hesv.symm
      dsimp only at e1 e2
      subst e1 e2
      clear heme hesv
      have klg := hinv2.li
      have kdu := k_durable ⟨nme, nsv, Nterm, Nvote, Nrole, Nlead, Ncommit, Nleft, Nlog, none, Nnxt, Nmat⟩ cap' xs' hL2 klg.ho (by have := hinv2.l2; dsimp only at this ⊢; omega)
      have kcm := k_commit ⟨nme, nsv, Nterm, Nvote, Nrole, Nlead, Ncommit, Nleft, Nlog, none, Nnxt, Nmat⟩ cap' xs'
      dsimp only at hT hC kcm kdu hM
      (conv => arg 3; whnf); repeat ((first | (with_reducible apply sT); rfl | (with_reducible apply sF); rfl | (with_reducible apply sE); rfl); conv => arg 3; whnf)
      refine sat_call kdu ?_
      rintro r H' ⟨rfl, rfl⟩
      (conv => arg 3; whnf); repeat ((first | (with_reducible apply sT); rfl | (with_reducible apply sF); rfl | (with_reducible apply sE); rfl); conv => arg 3; whnf)
      refine sat_br (fun hb => ?_) (fun hb => ?_)
      · exact absurd (show Nterm < term from of_decide_eq_true hb) (by omega)
      (conv => arg 3; whnf); repeat ((first | (with_reducible apply sT); rfl | (with_reducible apply sF); rfl | (with_reducible apply sE); rfl); conv => arg 3; whnf)
      refine sat_call kcm ?_
      rintro r H' ⟨rfl, rfl⟩
      (conv => arg 3; whnf); repeat ((first | (with_reducible apply sT); rfl | (with_reducible apply sF); rfl | (with_reducible apply sE); rfl); conv => arg 3; whnf)
      refine sat_br (fun hb => ?_) (fun hb => ?_)
      · exact absurd (show Ncommit < commit from of_decide_eq_true hb) (by omega)
      (conv => arg 3; whnf); repeat ((first | (with_reducible apply sT); rfl | (with_reducible apply sF); rfl | (with_reducible apply sE); rfl); conv => arg 3; whnf)
      refine sat_call kcm ?_
      rintro r H' ⟨rfl, rfl⟩
      (conv => arg 3; whnf); repeat ((first | (with_reducible apply sT); rfl | (with_reducible apply sF); rfl | (with_reducible apply sE); rfl); conv => arg 3; whnf)
      refine sat_asrt (vt_fits Nterm vm) ?_
      (conv => arg 3; whnf); repeat ((first | (with_reducible apply sT); rfl | (with_reducible apply sF); rfl | (with_reducible apply sE); rfl); conv => arg 3; whnf)
      refine sat_keyP (P := fun w => VI w ⟨nme, nsv, Nterm, Nvote, Nrole, Nlead, Ncommit, Nleft, Nlog, none, Nnxt, Nmat⟩) (G := _) ?_ (fun key => by
        rcases mfind_vt Nterm vm with hmf | ⟨v, hmf, hvv⟩
        · rw [hmf]
          (conv => arg 3; whnf); repeat ((first | (with_reducible apply sT); rfl | (with_reducible apply sF); rfl | (with_reducible apply sE); rfl); conv => arg 3; whnf)
          refine sat_br (fun hb => ?_) (fun hb => ?_)
          rotate_left
          · (conv => arg 3; whnf); repeat ((first | (with_reducible apply sT); rfl | (with_reducible apply sF); rfl | (with_reducible apply sE); rfl); conv => arg 3; whnf)
            have hw := hvi2
            generalize vm = w at hw ⊢
            exact key w hw
          · have hb : Nvote > 0 := of_decide_eq_true hb
            have hvi3 := VI.put hvi2 hb
            (conv => arg 3; whnf); repeat ((first | (with_reducible apply sT); rfl | (with_reducible apply sF); rfl | (with_reducible apply sE); rfl); conv => arg 3; whnf)
            refine sat_asrt (vt_fits Nterm vm) ?_
            (conv => arg 3; whnf); repeat ((first | (with_reducible apply sT); rfl | (with_reducible apply sF); rfl | (with_reducible apply sE); rfl); conv => arg 3; whnf)
            rw [show mput (i6 Nterm) (i6 Nvote) (VT vm) = VT (vput Nterm Nvote vm) from mput_vt _ _ _]
            exact key _ hvi3
        · rw [hmf]
          obtain rfl : Nvote = v := (hvi2 _ hvv).2.1 rfl
          (conv => arg 3; whnf); repeat ((first | (with_reducible apply sT); rfl | (with_reducible apply sF); rfl | (with_reducible apply sE); rfl); conv => arg 3; whnf)
          refine sat_br (fun hb => ?_) (fun hb => ?_)
          · simp at hb
          (conv => arg 3; whnf); repeat ((first | (with_reducible apply sT); rfl | (with_reducible apply sF); rfl | (with_reducible apply sE); rfl); conv => arg 3; whnf)
          refine sat_br (fun hb => ?_) (fun hb => ?_)
          rotate_left
          · (conv => arg 3; whnf); repeat ((first | (with_reducible apply sT); rfl | (with_reducible apply sF); rfl | (with_reducible apply sE); rfl); conv => arg 3; whnf)
            have hw := hvi2
            generalize vm = w at hw ⊢
            exact key w hw
          · have hb : Nvote > 0 := of_decide_eq_true hb
            have hvi3 := VI.put hvi2 hb
            (conv => arg 3; whnf); repeat ((first | (with_reducible apply sT); rfl | (with_reducible apply sF); rfl | (with_reducible apply sE); rfl); conv => arg 3; whnf)
            refine sat_asrt (vt_fits Nterm vm) ?_
            (conv => arg 3; whnf); repeat ((first | (with_reducible apply sT); rfl | (with_reducible apply sF); rfl | (with_reducible apply sE); rfl); conv => arg 3; whnf)
            rw [show mput (i6 Nterm) (i6 Nvote) (VT vm) = VT (vput Nterm Nvote vm) from mput_vt _ _ _]
            exact key _ hvi3
        )
      intro vm2 hvi3
      dsimp only
      refine sat_loopOf mkX_ops (σ := OuSt ms) (fun x => [(2, pt 0), (5, pt 1), (7, .mp 3), (8, ti Nterm), (9, ti Ncommit), (16, pt 4), (53, .t (.sl g0 88 X)), (54, ti (X.length : Int)), (55, ti (i : Int)), (154, .sl 6 0 [] 0 ms.length c), (155, ti (ms.length : Int)), (156, ti (x.j : Int))])
        (fun x => .var (.t (rvS nme nsv term0 vote0 f0 L0)) :: .var (nodeV ⟨nme, nsv, Nterm, Nvote, Nrole, Nlead, Ncommit, Nleft, Nlog, none, Nnxt, Nmat⟩ 2 cap') :: .row 40 xs' :: (voteO (none : Option (List Int)) ++ [.map (VT vm2), .var (.agg [ti Nterm, ti Nvote, .sl 5 0 [] 0 Nlog.length (some Nlog.length)]), .row 40 (esT (owned Nlog)), .row 46 (ms.map Mo.t)])) (fun x => ms.length - x.j)
        (fun ex fr' H' => ex = .exit 3 ∧ fr' = [(2, pt 0), (4, .undef), (5, pt 1), (7, .mp 3), (8, ti Nterm), (9, ti Ncommit), (53, .t (.sl g0 88 X)), (54, ti (X.length : Int)), (55, ti (i : Int))] ∧
          H' = .var (.t (rvS nme nsv term0 vote0 f0 L0)) :: .var (nodeV ⟨nme, nsv, Nterm, Nvote, Nrole, Nlead, Ncommit, Nleft, Nlog, none, Nnxt, Nmat⟩ 2 cap') :: .row 40 xs' :: (voteO (none : Option (List Int)) ++ [.map (VT vm2), .var (.agg [ti Nterm, ti Nvote, .sl 5 0 [] 0 Nlog.length (some Nlog.length)]), .row 40 (esT (owned Nlog)), .row 46 (ms.map Mo.t)])) ⟨0, Nat.zero_le _⟩ ?_ ?_
      · rintro ⟨j, hj⟩
        dsimp only
        (conv => arg 3; whnf); repeat ((first | (with_reducible apply sT); rfl | (with_reducible apply sF); rfl | (with_reducible apply sE); rfl); conv => arg 3; whnf)
        refine sat_br (fun hb => ?_) (fun hb => ?_)
        · have hb : j < ms.length := by have := of_decide_eq_true hb; omega
          have hu : ms[j]? = some (ms[j]'hb) := List.getElem?_eq_getElem hb
          obtain ⟨q1, q2, q3, q4, q5, q6⟩ := hM _ (List.mem_of_getElem? hu)
          generalize ms[j]'hb = o at hu q1 q2 q3 q4 q5 q6
          try dsimp only at q1 q2 q4 q5 q6
          (conv => arg 3; whnf); repeat ((first | (with_reducible apply sT); rfl | (with_reducible apply sF); rfl | (with_reducible apply sE); rfl); conv => arg 3; whnf)
          refine sat_asrt (by simp; omega) ?_
          (conv => arg 3; whnf); repeat ((first | (with_reducible apply sT); rfl | (with_reducible apply sF); rfl | (with_reducible apply sE); rfl); conv => arg 3; whnf)
          refine sat_idx o.t (by omega) (by rw [Int.toNat_natCast, Nat.zero_add, Int.toNat_natCast, List.getElem?_map, hu]; rfl) ?_
          (conv => arg 3; whnf); repeat ((first | (with_reducible apply sT); rfl | (with_reducible apply sF); rfl | (with_reducible apply sE); rfl); conv => arg 3; whnf)
          refine sat_br (fun hc => ?_) (fun hc => ?_)
          · exact absurd q1 (by simpa using hc)
          (conv => arg 3; whnf); repeat ((first | (with_reducible apply sT); rfl | (with_reducible apply sF); rfl | (with_reducible apply sE); rfl); conv => arg 3; whnf)
          refine sat_br (fun hc => ?_) (fun hc => ?_)
          · exact absurd (by simpa using hc) q2
          (conv => arg 3; whnf); repeat ((first | (with_reducible apply sT); rfl | (with_reducible apply sF); rfl | (with_reducible apply sE); rfl); conv => arg 3; whnf)
          refine sat_br (fun hc => ?_) (fun hc => ?_)
          · exact absurd (show o.to < 1 from of_decide_eq_true hc) (by omega)
          (conv => arg 3; whnf); repeat ((first | (with_reducible apply sT); rfl | (with_reducible apply sF); rfl | (with_reducible apply sE); rfl); conv => arg 3; whnf)
          refine sat_br (fun hc => ?_) (fun hc => ?_)
          · exact absurd (show o.to > nsv from of_decide_eq_true hc) (by omega)
          (conv => arg 3; whnf); repeat ((first | (with_reducible apply sT); rfl | (with_reducible apply sF); rfl | (with_reducible apply sE); rfl); conv => arg 3; whnf)
          refine sat_br (fun hc => ?_) (fun hc => ?_)
          · exact absurd q5 (by simpa using hc)
          (conv => arg 3; whnf); repeat ((first | (with_reducible apply sT); rfl | (with_reducible apply sF); rfl | (with_reducible apply sE); rfl); conv => arg 3; whnf)
          refine sat_br (fun hc => ?_) (fun hc => ?_)
          · have hk2 : o.kind = 2 := by simpa using hc
            (conv => arg 3; whnf); repeat ((first | (with_reducible apply sT); rfl | (with_reducible apply sF); rfl | (with_reducible apply sE); rfl); conv => arg 3; whnf)
            refine sat_br (fun hd => ?_) (fun hd => ?_)
            · (conv => arg 3; whnf); repeat ((first | (with_reducible apply sT); rfl | (with_reducible apply sF); rfl | (with_reducible apply sE); rfl); conv => arg 3; whnf)
              refine sat_br (fun he => ?_) (fun he => ?_)
              · exact absurd (q6 hk2 hd) (by simpa using he)
              (conv => arg 3; whnf); repeat ((first | (with_reducible apply sT); rfl | (with_reducible apply sF); rfl | (with_reducible apply sE); rfl); conv => arg 3; whnf)
              refine sat_rng (wrap64 (by omega) (by omega)) ?_
              exact sat_ret ⟨⟨j + 1, hb⟩, rfl, rfl, by show ms.length - (j + 1) < ms.length - j; omega⟩
            · (conv => arg 3; whnf); repeat ((first | (with_reducible apply sT); rfl | (with_reducible apply sF); rfl | (with_reducible apply sE); rfl); conv => arg 3; whnf)
              refine sat_rng (wrap64 (by omega) (by omega)) ?_
              exact sat_ret ⟨⟨j + 1, hb⟩, rfl, rfl, by show ms.length - (j + 1) < ms.length - j; omega⟩
          · (conv => arg 3; whnf); repeat ((first | (with_reducible apply sT); rfl | (with_reducible apply sF); rfl | (with_reducible apply sE); rfl); conv => arg 3; whnf)
            refine sat_rng (wrap64 (by omega) (by omega)) ?_
            exact sat_ret ⟨⟨j + 1, hb⟩, rfl, rfl, by show ms.length - (j + 1) < ms.length - j; omega⟩
        · (conv => arg 3; whnf); repeat ((first | (with_reducible apply sT); rfl | (with_reducible apply sF); rfl | (with_reducible apply sE); rfl); conv => arg 3; whnf)
          exact sat_ret ⟨rfl, rfl, rfl⟩
      · rintro ex fr' H' ⟨rfl, rfl, rfl⟩
        (conv => arg 3; whnf); repeat ((first | (with_reducible apply sT); rfl | (with_reducible apply sF); rfl | (with_reducible apply sE); rfl); conv => arg 3; whnf)
        refine sat_rng (wrap64 (by omega) (by omega)) ?_
        exact sat_ret (hnorm ⟨i + 1, ⟨nme, nsv, Nterm, Nvote, Nrole, Nlead, Ncommit, Nleft, Nlog, none, Nnxt, Nmat⟩, cap', xs', vm2, by omega, hL2, hinv2, hleft2, hvi3, rfl, rfl⟩ rfl h1 _ _ rfl rfl)
    · obtain ⟨e1, e2⟩ := And.intro heme.symm hesv.symm
      dsimp only at e1 e2
      subst e1 e2
      clear heme hesv
      have klg := hinv2.li
      have kdu := k_durable ⟨nme, nsv, Nterm, Nvote, Nrole, Nlead, Ncommit, Nleft, Nlog, some kN, Nnxt, Nmat⟩ cap' xs' hL2 klg.ho (by have := hinv2.l2; dsimp only at this ⊢; omega)
      have kcm := k_commit ⟨nme, nsv, Nterm, Nvote, Nrole, Nlead, Ncommit, Nleft, Nlog, some kN, Nnxt, Nmat⟩ cap' xs'
      dsimp only at hT hC kcm kdu hM
      (conv => arg 3; whnf); repeat ((first | (with_reducible apply sT); rfl | (with_reducible apply sF); rfl | (with_reducible apply sE); rfl); conv => arg 3; whnf)
      refine sat_call kdu ?_
      rintro r H' ⟨rfl, rfl⟩
      (conv => arg 3; whnf); repeat ((first | (with_reducible apply sT); rfl | (with_reducible apply sF); rfl | (with_reducible apply sE); rfl); conv => arg 3; whnf)
      refine sat_br (fun hb => ?_) (fun hb => ?_)
      · exact absurd (show Nterm < term from of_decide_eq_true hb) (by omega)
      (conv => arg 3; whnf); repeat ((first | (with_reducible apply sT); rfl | (with_reducible apply sF); rfl | (with_reducible apply sE); rfl); conv => arg 3; whnf)
      refine sat_call kcm ?_
      rintro r H' ⟨rfl, rfl⟩
      (conv => arg 3; whnf); repeat ((first | (with_reducible apply sT); rfl | (with_reducible apply sF); rfl | (with_reducible apply sE); rfl); conv => arg 3; whnf)
      refine sat_br (fun hb => ?_) (fun hb => ?_)
      · exact absurd (show Ncommit < commit from of_decide_eq_true hb) (by omega)
      (conv => arg 3; whnf); repeat ((first | (with_reducible apply sT); rfl | (with_reducible apply sF); rfl | (with_reducible apply sE); rfl); conv => arg 3; whnf)
      refine sat_call kcm ?_
      rintro r H' ⟨rfl, rfl⟩
      (conv => arg 3; whnf); repeat ((first | (with_reducible apply sT); rfl | (with_reducible apply sF); rfl | (with_reducible apply sE); rfl); conv => arg 3; whnf)
      refine sat_asrt (vt_fits Nterm vm) ?_
      (conv => arg 3; whnf); repeat ((first | (with_reducible apply sT); rfl | (with_reducible apply sF); rfl | (with_reducible apply sE); rfl); conv => arg 3; whnf)
      refine sat_keyP (P := fun w => VI w ⟨nme, nsv, Nterm, Nvote, Nrole, Nlead, Ncommit, Nleft, Nlog, some kN, Nnxt, Nmat⟩) (G := _) ?_ (fun key => by
        rcases mfind_vt Nterm vm with hmf | ⟨v, hmf, hvv⟩
        · rw [hmf]
          (conv => arg 3; whnf); repeat ((first | (with_reducible apply sT); rfl | (with_reducible apply sF); rfl | (with_reducible apply sE); rfl); conv => arg 3; whnf)
          refine sat_br (fun hb => ?_) (fun hb => ?_)
          rotate_left
          · (conv => arg 3; whnf); repeat ((first | (with_reducible apply sT); rfl | (with_reducible apply sF); rfl | (with_reducible apply sE); rfl); conv => arg 3; whnf)
            have hw := hvi2
            generalize vm = w at hw ⊢
            exact key w hw
          · have hb : Nvote > 0 := of_decide_eq_true hb
            have hvi3 := VI.put hvi2 hb
            (conv => arg 3; whnf); repeat ((first | (with_reducible apply sT); rfl | (with_reducible apply sF); rfl | (with_reducible apply sE); rfl); conv => arg 3; whnf)
            refine sat_asrt (vt_fits Nterm vm) ?_
            (conv => arg 3; whnf); repeat ((first | (with_reducible apply sT); rfl | (with_reducible apply sF); rfl | (with_reducible apply sE); rfl); conv => arg 3; whnf)
            rw [show mput (i6 Nterm) (i6 Nvote) (VT vm) = VT (vput Nterm Nvote vm) from mput_vt _ _ _]
            exact key _ hvi3
        · rw [hmf]
          obtain rfl : Nvote = v := (hvi2 _ hvv).2.1 rfl
          (conv => arg 3; whnf); repeat ((first | (with_reducible apply sT); rfl | (with_reducible apply sF); rfl | (with_reducible apply sE); rfl); conv => arg 3; whnf)
          refine sat_br (fun hb => ?_) (fun hb => ?_)
          · simp at hb
          (conv => arg 3; whnf); repeat ((first | (with_reducible apply sT); rfl | (with_reducible apply sF); rfl | (with_reducible apply sE); rfl); conv => arg 3; whnf)
          refine sat_br (fun hb => ?_) (fun hb => ?_)
          rotate_left
          · (conv => arg 3; whnf); repeat ((first | (with_reducible apply sT); rfl | (with_reducible apply sF); rfl | (with_reducible apply sE); rfl); conv => arg 3; whnf)
            have hw := hvi2
            generalize vm = w at hw ⊢
            exact key w hw
          · have hb : Nvote > 0 := of_decide_eq_true hb
            have hvi3 := VI.put hvi2 hb
            (conv => arg 3; whnf); repeat ((first | (with_reducible apply sT); rfl | (with_reducible apply sF); rfl | (with_reducible apply sE); rfl); conv => arg 3; whnf)
            refine sat_asrt (vt_fits Nterm vm) ?_
            (conv => arg 3; whnf); repeat ((first | (with_reducible apply sT); rfl | (with_reducible apply sF); rfl | (with_reducible apply sE); rfl); conv => arg 3; whnf)
            rw [show mput (i6 Nterm) (i6 Nvote) (VT vm) = VT (vput Nterm Nvote vm) from mput_vt _ _ _]
            exact key _ hvi3
        )
      intro vm2 hvi3
      dsimp only
      refine sat_loopOf mkX_ops (σ := OuSt ms) (fun x => [(2, pt 0), (5, pt 1), (7, .mp 4), (8, ti Nterm), (9, ti Ncommit), (16, pt 5), (53, .t (.sl g0 88 X)), (54, ti (X.length : Int)), (55, ti (i : Int)), (154, .sl 7 0 [] 0 ms.length c), (155, ti (ms.length : Int)), (156, ti (x.j : Int))])
        (fun x => .var (.t (rvS nme nsv term0 vote0 f0 L0)) :: .var (nodeV ⟨nme, nsv, Nterm, Nvote, Nrole, Nlead, Ncommit, Nleft, Nlog, some kN, Nnxt, Nmat⟩ 2 cap') :: .row 40 xs' :: (voteO (some kN : Option (List Int)) ++ [.map (VT vm2), .var (.agg [ti Nterm, ti Nvote, .sl 6 0 [] 0 Nlog.length (some Nlog.length)]), .row 40 (esT (owned Nlog)), .row 46 (ms.map Mo.t)])) (fun x => ms.length - x.j)
        (fun ex fr' H' => ex = .exit 3 ∧ fr' = [(2, pt 0), (4, .undef), (5, pt 1), (7, .mp 4), (8, ti Nterm), (9, ti Ncommit), (53, .t (.sl g0 88 X)), (54, ti (X.length : Int)), (55, ti (i : Int))] ∧
          H' = .var (.t (rvS nme nsv term0 vote0 f0 L0)) :: .var (nodeV ⟨nme, nsv, Nterm, Nvote, Nrole, Nlead, Ncommit, Nleft, Nlog, some kN, Nnxt, Nmat⟩ 2 cap') :: .row 40 xs' :: (voteO (some kN : Option (List Int)) ++ [.map (VT vm2), .var (.agg [ti Nterm, ti Nvote, .sl 6 0 [] 0 Nlog.length (some Nlog.length)]), .row 40 (esT (owned Nlog)), .row 46 (ms.map Mo.t)])) ⟨0, Nat.zero_le _⟩ ?_ ?_
      · rintro ⟨j, hj⟩
        dsimp only
        (conv => arg 3; whnf); repeat ((first | (with_reducible apply sT); rfl | (with_reducible apply sF); rfl | (with_reducible apply sE); rfl); conv => arg 3; whnf)
        refine sat_br (fun hb => ?_) (fun hb => ?_)
        · have hb : j < ms.length := by have := of_decide_eq_true hb; omega
          have hu : ms[j]? = some (ms[j]'hb) := List.getElem?_eq_getElem hb
          obtain ⟨q1, q2, q3, q4, q5, q6⟩ := hM _ (List.mem_of_getElem? hu)
          generalize ms[j]'hb = o at hu q1 q2 q3 q4 q5 q6
          try dsimp only at q1 q2 q4 q5 q6
          (conv => arg 3; whnf); repeat ((first | (with_reducible apply sT); rfl | (with_reducible apply sF); rfl | (with_reducible apply sE); rfl); conv => arg 3; whnf)
          refine sat_asrt (by simp; omega) ?_
          (conv => arg 3; whnf); repeat ((first | (with_reducible apply sT); rfl | (with_reducible apply sF); rfl | (with_reducible apply sE); rfl); conv => arg 3; whnf)
          refine sat_idx o.t (by omega) (by rw [Int.toNat_natCast, Nat.zero_add, Int.toNat_natCast, List.getElem?_map, hu]; rfl) ?_
          (conv => arg 3; whnf); repeat ((first | (with_reducible apply sT); rfl | (with_reducible apply sF); rfl | (with_reducible apply sE); rfl); conv => arg 3; whnf)
          refine sat_br (fun hc => ?_) (fun hc => ?_)
          · exact absurd q1 (by simpa using hc)
          (conv => arg 3; whnf); repeat ((first | (with_reducible apply sT); rfl | (with_reducible apply sF); rfl | (with_reducible apply sE); rfl); conv => arg 3; whnf)
          refine sat_br (fun hc => ?_) (fun hc => ?_)
          · exact absurd (by simpa using hc) q2
          (conv => arg 3; whnf); repeat ((first | (with_reducible apply sT); rfl | (with_reducible apply sF); rfl | (with_reducible apply sE); rfl); conv => arg 3; whnf)
          refine sat_br (fun hc => ?_) (fun hc => ?_)
          · exact absurd (show o.to < 1 from of_decide_eq_true hc) (by omega)
          (conv => arg 3; whnf); repeat ((first | (with_reducible apply sT); rfl | (with_reducible apply sF); rfl | (with_reducible apply sE); rfl); conv => arg 3; whnf)
          refine sat_br (fun hc => ?_) (fun hc => ?_)
          · exact absurd (show o.to > nsv from of_decide_eq_true hc) (by omega)
          (conv => arg 3; whnf); repeat ((first | (with_reducible apply sT); rfl | (with_reducible apply sF); rfl | (with_reducible apply sE); rfl); conv => arg 3; whnf)
          refine sat_br (fun hc => ?_) (fun hc => ?_)
          · exact absurd q5 (by simpa using hc)
          (conv => arg 3; whnf); repeat ((first | (with_reducible apply sT); rfl | (with_reducible apply sF); rfl | (with_reducible apply sE); rfl); conv => arg 3; whnf)
          refine sat_br (fun hc => ?_) (fun hc => ?_)
          · have hk2 : o.kind = 2 := by simpa using hc
            (conv => arg 3; whnf); repeat ((first | (with_reducible apply sT); rfl | (with_reducible apply sF); rfl | (with_reducible apply sE); rfl); conv => arg 3; whnf)
            refine sat_br (fun hd => ?_) (fun hd => ?_)
            · (conv => arg 3; whnf); repeat ((first | (with_reducible apply sT); rfl | (with_reducible apply sF); rfl | (with_reducible apply sE); rfl); conv => arg 3; whnf)
              refine sat_br (fun he => ?_) (fun he => ?_)
              · exact absurd (q6 hk2 hd) (by simpa using he)
              (conv => arg 3; whnf); repeat ((first | (with_reducible apply sT); rfl | (with_reducible apply sF); rfl | (with_reducible apply sE); rfl); conv => arg 3; whnf)
              refine sat_rng (wrap64 (by omega) (by omega)) ?_
              exact sat_ret ⟨⟨j + 1, hb⟩, rfl, rfl, by show ms.length - (j + 1) < ms.length - j; omega⟩
            · (conv => arg 3; whnf); repeat ((first | (with_reducible apply sT); rfl | (with_reducible apply sF); rfl | (with_reducible apply sE); rfl); conv => arg 3; whnf)
              refine sat_rng (wrap64 (by omega) (by omega)) ?_
              exact sat_ret ⟨⟨j + 1, hb⟩, rfl, rfl, by show ms.length - (j + 1) < ms.length - j; omega⟩
          · (conv => arg 3; whnf); repeat ((first | (with_reducible apply sT); rfl | (with_reducible apply sF); rfl | (with_reducible apply sE); rfl); conv => arg 3; whnf)
            refine sat_rng (wrap64 (by omega) (by omega)) ?_
            exact sat_ret ⟨⟨j + 1, hb⟩, rfl, rfl, by show ms.length - (j + 1) < ms.length - j; omega⟩
        · (conv => arg 3; whnf); repeat ((first | (with_reducible apply sT); rfl | (with_reducible apply sF); rfl | (with_reducible apply sE); rfl); conv => arg 3; whnf)
          exact sat_ret ⟨rfl, rfl, rfl⟩
      · rintro ex fr' H' ⟨rfl, rfl, rfl⟩
        (conv => arg 3; whnf); repeat ((first | (with_reducible apply sT); rfl | (with_reducible apply sF); rfl | (with_reducible apply sE); rfl); conv => arg 3; whnf)
        refine sat_rng (wrap64 (by omega) (by omega)) ?_
        exact sat_ret (hnorm ⟨i + 1, ⟨nme, nsv, Nterm, Nvote, Nrole, Nlead, Ncommit, Nleft, Nlog, some kN, Nnxt, Nmat⟩, cap', xs', vm2, by omega, hL2, hinv2, hleft2, hvi3, rfl, rfl⟩ rfl h1 _ _ rfl rfl)
  (conv => arg 3; whnf); repeat ((first | (with_reducible apply sT); rfl | (with_reducible apply sF); rfl | (with_reducible apply sE); rfl); conv => arg 3; whnf)
  refine sat_br (fun k1 => ?_) (fun k1 => ?_)
  · (conv => arg 3; whnf); repeat ((first | (with_reducible apply sT); rfl | (with_reducible apply sF); rfl | (with_reducible apply sE); rfl); conv => arg 3; whnf)
    rw [owned_take]
    refine sat_call (k_TakeE ⟨nme, nsv, term, vote, role, lead, commit, nleft, log, some ks, nxt, mat⟩ cap xs hL hinv hleft ⟨m.kind, _, _, m.term, m.index, m.prev, m.commit, m.epoch, m.client, m.seq, m.yes, m.code, m.hash, owned m.es, m.data⟩ hk0 (owned_ok hes) draw (wf_i64 wd)) ?_
    rintro r H' ⟨N', ms, ev, hfew, cap', xs', c, hL2, rfl, rfl⟩
    have hinv2 := ev.inv
    have hleft2 := ev.left
    have hvi2 := VI.step hvi ev
    have hT := ev.term
    have hC := ev.commit
    have hM := ev.msg
    have heme := ev.me
    have hesv := ev.sv
    clear ev
    obtain ⟨Nme, Nsv, Nterm, Nvote, Nrole, Nlead, Ncommit, Nleft, Nlog, Nvotes, Nnxt, Nmat⟩ := N'
    dsimp only at hL2 hinv2 hleft2 hvi2
    rcases Nvotes with _ | kN
    · obtain ⟨e1, e2⟩ := And.intro heme.symm hesv.symm
      dsimp only at e1 e2
      subst e1 e2
      clear heme hesv
      have klg := hinv2.li
      have kdu := k_durable ⟨nme, nsv, Nterm, Nvote, Nrole, Nlead, Ncommit, Nleft, Nlog, none, Nnxt, Nmat⟩ cap' xs' hL2 klg.ho (by have := hinv2.l2; dsimp only at this ⊢; omega)
      have kcm := k_commit ⟨nme, nsv, Nterm, Nvote, Nrole, Nlead, Ncommit, Nleft, Nlog, none, Nnxt, Nmat⟩ cap' xs'
      dsimp only at hT hC kcm kdu hM
      (conv => arg 3; whnf); repeat ((first | (with_reducible apply sT); rfl | (with_reducible apply sF); rfl | (with_reducible apply sE); rfl); conv => arg 3; whnf)
      refine sat_call kdu ?_
      rintro r H' ⟨rfl, rfl⟩
      (conv => arg 3; whnf); repeat ((first | (with_reducible apply sT); rfl | (with_reducible apply sF); rfl | (with_reducible apply sE); rfl); conv => arg 3; whnf)
      refine sat_br (fun hb => ?_) (fun hb => ?_)
      · exact absurd (show Nterm < term from of_decide_eq_true hb) (by omega)
      (conv => arg 3; whnf); repeat ((first | (with_reducible apply sT); rfl | (with_reducible apply sF); rfl | (with_reducible apply sE); rfl); conv => arg 3; whnf)
      refine sat_call kcm ?_
      rintro r H' ⟨rfl, rfl⟩
      (conv => arg 3; whnf); repeat ((first | (with_reducible apply sT); rfl | (with_reducible apply sF); rfl | (with_reducible apply sE); rfl); conv => arg 3; whnf)
      refine sat_br (fun hb => ?_) (fun hb => ?_)
      · exact absurd (show Ncommit < commit from of_decide_eq_true hb) (by omega)
      (conv => arg 3; whnf); repeat ((first | (with_reducible apply sT); rfl | (with_reducible apply sF); rfl | (with_reducible apply sE); rfl); conv => arg 3; whnf)
      refine sat_call kcm ?_
      rintro r H' ⟨rfl, rfl⟩
      (conv => arg 3; whnf); repeat ((first | (with_reducible apply sT); rfl | (with_reducible apply sF); rfl | (with_reducible apply sE); rfl); conv => arg 3; whnf)
      refine sat_asrt (vt_fits Nterm vm) ?_
      (conv => arg 3; whnf); repeat ((first | (with_reducible apply sT); rfl | (with_reducible apply sF); rfl | (with_reducible apply sE); rfl); conv => arg 3; whnf)
      refine sat_keyP (P := fun w => VI w ⟨nme, nsv, Nterm, Nvote, Nrole, Nlead, Ncommit, Nleft, Nlog, none, Nnxt, Nmat⟩) (G := _) ?_ (fun key => by
        rcases mfind_vt Nterm vm with hmf | ⟨v, hmf, hvv⟩
        · rw [hmf]
          (conv => arg 3; whnf); repeat ((first | (with_reducible apply sT); rfl | (with_reducible apply sF); rfl | (with_reducible apply sE); rfl); conv => arg 3; whnf)
          refine sat_br (fun hb => ?_) (fun hb => ?_)
          rotate_left
          · (conv => arg 3; whnf); repeat ((first | (with_reducible apply sT); rfl | (with_reducible apply sF); rfl | (with_reducible apply sE); rfl); conv => arg 3; whnf)
            have hw := hvi2
            generalize vm = w at hw ⊢
            exact key w hw
          · have hb : Nvote > 0 := of_decide_eq_true hb
            have hvi3 := VI.put hvi2 hb
            (conv => arg 3; whnf); repeat ((first | (with_reducible apply sT); rfl | (with_reducible apply sF); rfl | (with_reducible apply sE); rfl); conv => arg 3; whnf)
            refine sat_asrt (vt_fits Nterm vm) ?_
            (conv => arg 3; whnf); repeat ((first | (with_reducible apply sT); rfl | (with_reducible apply sF); rfl | (with_reducible apply sE); rfl); conv => arg 3; whnf)
            rw [show mput (i6 Nterm) (i6 Nvote) (VT vm) = VT (vput Nterm Nvote vm) from mput_vt _ _ _]
            exact key _ hvi3
        · rw [hmf]
          obtain rfl : Nvote = v := (hvi2 _ hvv).2.1 rfl
          (conv => arg 3; whnf); repeat ((first | (with_reducible apply sT); rfl | (with_reducible apply sF); rfl | (with_reducible apply sE); rfl); conv => arg 3; whnf)
          refine sat_br (fun hb => ?_) (fun hb => ?_)
          · simp at hb
          (conv => arg 3; whnf); repeat ((first | (with_reducible apply sT); rfl | (with_reducible apply sF); rfl | (with_reducible apply sE); rfl); conv => arg 3; whnf)
          refine sat_br (fun hb => ?_) (fun hb => ?_)
          rotate_left
          · (conv => arg 3; whnf); repeat ((first | (with_reducible apply sT); rfl | (with_reducible apply sF); rfl | (with_reducible apply sE); rfl); conv => arg 3; whnf)
            have hw := hvi2
            generalize vm = w at hw ⊢
            exact key w hw
          · have hb : Nvote > 0 := of_decide_eq_true hb
            have hvi3 := VI.put hvi2 hb
            (conv => arg 3; whnf); repeat ((first | (with_reducible apply sT); rfl | (with_reducible apply sF); rfl | (with_reducible apply sE); rfl); conv => arg 3; whnf)
            refine sat_asrt (vt_fits Nterm vm) ?_
            (conv => arg 3; whnf); repeat ((first | (with_reducible apply sT); rfl | (with_reducible apply sF); rfl | (with_reducible apply sE); rfl); conv => arg 3; whnf)
            rw [show mput (i6 Nterm) (i6 Nvote) (VT vm) = VT (vput Nterm Nvote vm) from mput_vt _ _ _]
            exact key _ hvi3
        )
      intro vm2 hvi3
      dsimp only
      refine sat_loopOf mkX_ops (σ := OuSt ms) (fun x => [(2, pt 0), (5, pt 1), (7, .mp 3), (8, ti Nterm), (9, ti Ncommit), (16, pt 4), (53, .t (.sl g0 88 X)), (54, ti (X.length : Int)), (55, ti (i : Int)), (154, .sl 6 0 [] 0 ms.length c), (155, ti (ms.length : Int)), (156, ti (x.j : Int))])
        (fun x => .var (.t (rvS nme nsv term0 vote0 f0 L0)) :: .var (nodeV ⟨nme, nsv, Nterm, Nvote, Nrole, Nlead, Ncommit, Nleft, Nlog, none, Nnxt, Nmat⟩ 2 cap') :: .row 40 xs' :: (voteO (none : Option (List Int)) ++ [.map (VT vm2), .var (.agg [ti Nterm, ti Nvote, .sl 5 0 [] 0 Nlog.length (some Nlog.length)]), .row 40 (esT (owned Nlog)), .row 46 (ms.map Mo.t)])) (fun x => ms.length - x.j)
        (fun ex fr' H' => ex = .exit 3 ∧ fr' = [(2, pt 0), (4, .undef), (5, pt 1), (7, .mp 3), (8, ti Nterm), (9, ti Ncommit), (53, .t (.sl g0 88 X)), (54, ti (X.length : Int)), (55, ti (i : Int))] ∧
          H' = .var (.t (rvS nme nsv term0 vote0 f0 L0)) :: .var (nodeV ⟨nme, nsv, Nterm, Nvote, Nrole, Nlead, Ncommit, Nleft, Nlog, none, Nnxt, Nmat⟩ 2 cap') :: .row 40 xs' :: (voteO (none : Option (List Int)) ++ [.map (VT vm2), .var (.agg [ti Nterm, ti Nvote, .sl 5 0 [] 0 Nlog.length (some Nlog.length)]), .row 40 (esT (owned Nlog)), .row 46 (ms.map Mo.t)])) ⟨0, Nat.zero_le _⟩ ?_ ?_
      · rintro ⟨j, hj⟩
        dsimp only
        (conv => arg 3; whnf); repeat ((first | (with_reducible apply sT); rfl | (with_reducible apply sF); rfl | (with_reducible apply sE); rfl); conv => arg 3; whnf)
        refine sat_br (fun hb => ?_) (fun hb => ?_)
        · have hb : j < ms.length := by have := of_decide_eq_true hb; omega
          have hu : ms[j]? = some (ms[j]'hb) := List.getElem?_eq_getElem hb
          obtain ⟨q1, q2, q3, q4, q5, q6⟩ := hM _ (List.mem_of_getElem? hu)
          generalize ms[j]'hb = o at hu q1 q2 q3 q4 q5 q6
          try dsimp only at q1 q2 q4 q5 q6
          (conv => arg 3; whnf); repeat ((first | (with_reducible apply sT); rfl | (with_reducible apply sF); rfl | (with_reducible apply sE); rfl); conv => arg 3; whnf)
          refine sat_asrt (by simp; omega) ?_
          (conv => arg 3; whnf); repeat ((first | (with_reducible apply sT); rfl | (with_reducible apply sF); rfl | (with_reducible apply sE); rfl); conv => arg 3; whnf)
          refine sat_idx o.t (by omega) (by rw [Int.toNat_natCast, Nat.zero_add, Int.toNat_natCast, List.getElem?_map, hu]; rfl) ?_
          (conv => arg 3; whnf); repeat ((first | (with_reducible apply sT); rfl | (with_reducible apply sF); rfl | (with_reducible apply sE); rfl); conv => arg 3; whnf)
          refine sat_br (fun hc => ?_) (fun hc => ?_)
          · exact absurd q1 (by simpa using hc)
          (conv => arg 3; whnf); repeat ((first | (with_reducible apply sT); rfl | (with_reducible apply sF); rfl | (with_reducible apply sE); rfl); conv => arg 3; whnf)
          refine sat_br (fun hc => ?_) (fun hc => ?_)
          · exact absurd (by simpa using hc) q2
          (conv => arg 3; whnf); repeat ((first | (with_reducible apply sT); rfl | (with_reducible apply sF); rfl | (with_reducible apply sE); rfl); conv => arg 3; whnf)
          refine sat_br (fun hc => ?_) (fun hc => ?_)
          · exact absurd (show o.to < 1 from of_decide_eq_true hc) (by omega)
          (conv => arg 3; whnf); repeat ((first | (with_reducible apply sT); rfl | (with_reducible apply sF); rfl | (with_reducible apply sE); rfl); conv => arg 3; whnf)
          refine sat_br (fun hc => ?_) (fun hc => ?_)
          · exact absurd (show o.to > nsv from of_decide_eq_true hc) (by omega)
          (conv => arg 3; whnf); repeat ((first | (with_reducible apply sT); rfl | (with_reducible apply sF); rfl | (with_reducible apply sE); rfl); conv => arg 3; whnf)
          refine sat_br (fun hc => ?_) (fun hc => ?_)
          · exact absurd q5 (by simpa using hc)
          (conv => arg 3; whnf); repeat ((first | (with_reducible apply sT); rfl | (with_reducible apply sF); rfl | (with_reducible apply sE); rfl); conv => arg 3; whnf)
          refine sat_br (fun hc => ?_) (fun hc => ?_)
          · have hk2 : o.kind = 2 := by simpa using hc
            (conv => arg 3; whnf); repeat ((first | (with_reducible apply sT); rfl | (with_reducible apply sF); rfl | (with_reducible apply sE); rfl); conv => arg 3; whnf)
            refine sat_br (fun hd => ?_) (fun hd => ?_)
            · (conv => arg 3; whnf); repeat ((first | (with_reducible apply sT); rfl | (with_reducible apply sF); rfl | (with_reducible apply sE); rfl); conv => arg 3; whnf)
              refine sat_br (fun he => ?_) (fun he => ?_)
              · exact absurd (q6 hk2 hd) (by simpa using he)
              (conv => arg 3; whnf); repeat ((first | (with_reducible apply sT); rfl | (with_reducible apply sF); rfl | (with_reducible apply sE); rfl); conv => arg 3; whnf)
              refine sat_rng (wrap64 (by omega) (by omega)) ?_
              exact sat_ret ⟨⟨j + 1, hb⟩, rfl, rfl, by show ms.length - (j + 1) < ms.length - j; omega⟩
            · (conv => arg 3; whnf); repeat ((first | (with_reducible apply sT); rfl | (with_reducible apply sF); rfl | (with_reducible apply sE); rfl); conv => arg 3; whnf)
              refine sat_rng (wrap64 (by omega) (by omega)) ?_
              exact sat_ret ⟨⟨j + 1, hb⟩, rfl, rfl, by show ms.length - (j + 1) < ms.length - j; omega⟩
          · (conv => arg 3; whnf); repeat ((first | (with_reducible apply sT); rfl | (with_reducible apply sF); rfl | (with_reducible apply sE); rfl); conv => arg 3; whnf)
            refine sat_rng (wrap64 (by omega) (by omega)) ?_
            exact sat_ret ⟨⟨j + 1, hb⟩, rfl, rfl, by show ms.length - (j + 1) < ms.length - j; omega⟩
        · (conv => arg 3; whnf); repeat ((first | (with_reducible apply sT); rfl | (with_reducible apply sF); rfl | (with_reducible apply sE); rfl); conv => arg 3; whnf)
          exact sat_ret ⟨rfl, rfl, rfl⟩
      · rintro ex fr' H' ⟨rfl, rfl, rfl⟩
        (conv => arg 3; whnf); repeat ((first | (with_reducible apply sT); rfl | (with_reducible apply sF); rfl | (with_reducible apply sE); rfl); conv => arg 3; whnf)
        refine sat_rng (wrap64 (by omega) (by omega)) ?_
        exact sat_ret (hnorm ⟨i + 1, ⟨nme, nsv, Nterm, Nvote, Nrole, Nlead, Ncommit, Nleft, Nlog, none, Nnxt, Nmat⟩, cap', xs', vm2, by omega, hL2, hinv2, hleft2, hvi3, rfl, rfl⟩ rfl h1 _ _ rfl rfl)
    · obtain ⟨e1, e2⟩ := And.intro heme.symm hesv.symm
      dsimp only at e1 e2
      subst e1 e2
      clear heme hesv
      have klg := hinv2.li
      have kdu := k_durable ⟨nme, nsv, Nterm, Nvote, Nrole, Nlead, Ncommit, Nleft, Nlog, some kN, Nnxt, Nmat⟩ cap' xs' hL2 klg.ho (by have := hinv2.l2; dsimp only at this ⊢; omega)
      have kcm := k_commit ⟨nme, nsv, Nterm, Nvote, Nrole, Nlead, Ncommit, Nleft, Nlog, some kN, Nnxt, Nmat⟩ cap' xs'
      dsimp only at hT hC kcm kdu hM
      (conv => arg 3; whnf); repeat ((first | (with_reducible apply sT); rfl | (with_reducible apply sF); rfl | (with_reducible apply sE); rfl); conv => arg 3; whnf)
      refine sat_call kdu ?_
      rintro r H' ⟨rfl, rfl⟩
      (conv => arg 3; whnf); repeat ((first | (with_reducible apply sT); rfl | (with_reducible apply sF); rfl | (with_reducible apply sE); rfl); conv => arg 3; whnf)
      refine sat_br (fun hb => ?_) (fun hb => ?_)
      · exact absurd (show Nterm < term from of_decide_eq_true hb) (by omega)
      (conv => arg 3; whnf); repeat ((first | (with_reducible apply sT); rfl | (with_reducible apply sF); rfl | (with_reducible apply sE); rfl); conv => arg 3; whnf)
      refine sat_call kcm ?_
      rintro r H' ⟨rfl, rfl⟩
      (conv => arg 3; whnf); repeat ((first | (with_reducible apply sT); rfl | (with_reducible apply sF); rfl | (with_reducible apply sE); rfl); conv => arg 3; whnf)
      refine sat_br (fun hb => ?_) (fun hb => ?_)
      · exact absurd (show Ncommit < commit from of_decide_eq_true hb) (by omega)
      (conv => arg 3; whnf); repeat ((first | (with_reducible apply sT); rfl | (with_reducible apply sF); rfl | (with_reducible apply sE); rfl); conv => arg 3; whnf)
      refine sat_call kcm ?_
      rintro r H' ⟨rfl, rfl⟩
      (conv => arg 3; whnf); repeat ((first | (with_reducible apply sT); rfl | (with_reducible apply sF); rfl | (with_reducible apply sE); rfl); conv => arg 3; whnf)
      refine sat_asrt (vt_fits Nterm vm) ?_
      (conv => arg 3; whnf); repeat ((first | (with_reducible apply sT); rfl | (with_reducible apply sF); rfl | (with_reducible apply sE); rfl); conv => arg 3; whnf)
      refine sat_keyP (P := fun w => VI w ⟨nme, nsv, Nterm, Nvote, Nrole, Nlead, Ncommit, Nleft, Nlog, some kN, Nnxt, Nmat⟩) (G := _) ?_ (fun key => by
        rcases mfind_vt Nterm vm with hmf | ⟨v, hmf, hvv⟩
        · rw [hmf]
          (conv => arg 3; whnf); repeat ((first | (with_reducible apply sT); rfl | (with_reducible apply sF); rfl | (with_reducible apply sE); rfl); conv => arg 3; whnf)
          refine sat_br (fun hb => ?_) (fun hb => ?_)
          rotate_left
          · (conv => arg 3; whnf); repeat ((first | (with_reducible apply sT); rfl | (with_reducible apply sF); rfl | (with_reducible apply sE); rfl); conv => arg 3; whnf)
            have hw := hvi2
            generalize vm = w at hw ⊢
            exact key w hw
          · have hb : Nvote > 0 := of_decide_eq_true hb
            have hvi3 := VI.put hvi2 hb
            (conv => arg 3; whnf); repeat ((first | (with_reducible apply sT); rfl | (with_reducible apply sF); rfl | (with_reducible apply sE); rfl); conv => arg 3; whnf)
            refine sat_asrt (vt_fits Nterm vm) ?_
            (conv => arg 3; whnf); repeat ((first | (with_reducible apply sT); rfl | (with_reducible apply sF); rfl | (with_reducible apply sE); rfl); conv => arg 3; whnf)
            rw [show mput (i6 Nterm) (i6 Nvote) (VT vm) = VT (vput Nterm Nvote vm) from mput_vt _ _ _]
            exact key _ hvi3
        · rw [hmf]
          obtain rfl : Nvote = v := (hvi2 _ hvv).2.1 rfl
          (conv => arg 3; whnf); repeat ((first | (with_reducible apply sT); rfl | (with_reducible apply sF); rfl | (with_reducible apply sE); rfl); conv => arg 3; whnf)
          refine sat_br (fun hb => ?_) (fun hb => ?_)
          · simp at hb
          (conv => arg 3; whnf); repeat ((first | (with_reducible apply sT); rfl | (with_reducible apply sF); rfl | (with_reducible apply sE); rfl); conv => arg 3; whnf)
          refine sat_br (fun hb => ?_) (fun hb => ?_)
          rotate_left
          · (conv => arg 3; whnf); repeat ((first | (with_reducible apply sT); rfl | (with_reducible apply sF); rfl | (with_reducible apply sE); rfl); conv => arg 3; whnf)
            have hw := hvi2
            generalize vm = w at hw ⊢
            exact key w hw
          · have hb : Nvote > 0 := of_decide_eq_true hb
            have hvi3 := VI.put hvi2 hb
            (conv => arg 3; whnf); repeat ((first | (with_reducible apply sT); rfl | (with_reducible apply sF); rfl | (with_reducible apply sE); rfl); conv => arg 3; whnf)
            refine sat_asrt (vt_fits Nterm vm) ?_
            (conv => arg 3; whnf); repeat ((first | (with_reducible apply sT); rfl | (with_reducible apply sF); rfl | (with_reducible apply sE); rfl); conv => arg 3; whnf)
            rw [show mput (i6 Nterm) (i6 Nvote) (VT vm) = VT (vput Nterm Nvote vm) from mput_vt _ _ _]
            exact key _ hvi3
        )
      intro vm2 hvi3
      dsimp only
      refine sat_loopOf mkX_ops (σ := OuSt ms) (fun x => [(2, pt 0), (5, pt 1), (7, .mp 4), (8, ti Nterm), (9, ti Ncommit), (16, pt 5), (53, .t (.sl g0 88 X)), (54, ti (X.length : Int)), (55, ti (i : Int)), (154, .sl 7 0 [] 0 ms.length c), (155, ti (ms.length : Int)), (156, ti (x.j : Int))])
        (fun x => .var (.t (rvS nme nsv term0 vote0 f0 L0)) :: .var (nodeV ⟨nme, nsv, Nterm, Nvote, Nrole, Nlead, Ncommit, Nleft, Nlog, some kN, Nnxt, Nmat⟩ 2 cap') :: .row 40 xs' :: (voteO (some kN : Option (List Int)) ++ [.map (VT vm2), .var (.agg [ti Nterm, ti Nvote, .sl 6 0 [] 0 Nlog.length (some Nlog.length)]), .row 40 (esT (owned Nlog)), .row 46 (ms.map Mo.t)])) (fun x => ms.length - x.j)
        (fun ex fr' H' => ex = .exit 3 ∧ fr' = [(2, pt 0), (4, .undef), (5, pt 1), (7, .mp 4), (8, ti Nterm), (9, ti Ncommit), (53, .t (.sl g0 88 X)), (54, ti (X.length : Int)), (55, ti (i : Int))] ∧
          H' = .var (.t (rvS nme nsv term0 vote0 f0 L0)) :: .var (nodeV ⟨nme, nsv, Nterm, Nvote, Nrole, Nlead, Ncommit, Nleft, Nlog, some kN, Nnxt, Nmat⟩ 2 cap') :: .row 40 xs' :: (voteO (some kN : Option (List Int)) ++ [.map (VT vm2), .var (.agg [ti Nterm, ti Nvote, .sl 6 0 [] 0 Nlog.length (some Nlog.length)]), .row 40 (esT (owned Nlog)), .row 46 (ms.map Mo.t)])) ⟨0, Nat.zero_le _⟩ ?_ ?_
      · rintro ⟨j, hj⟩
        dsimp only
        (conv => arg 3; whnf); repeat ((first | (with_reducible apply sT); rfl | (with_reducible apply sF); rfl | (with_reducible apply sE); rfl); conv => arg 3; whnf)
        refine sat_br (fun hb => ?_) (fun hb => ?_)
        · have hb : j < ms.length := by have := of_decide_eq_true hb; omega
          have hu : ms[j]? = some (ms[j]'hb) := List.getElem?_eq_getElem hb
          obtain ⟨q1, q2, q3, q4, q5, q6⟩ := hM _ (List.mem_of_getElem? hu)
          generalize ms[j]'hb = o at hu q1 q2 q3 q4 q5 q6
          try dsimp only at q1 q2 q4 q5 q6
          (conv => arg 3; whnf); repeat ((first | (with_reducible apply sT); rfl | (with_reducible apply sF); rfl | (with_reducible apply sE); rfl); conv => arg 3; whnf)
          refine sat_asrt (by simp; omega) ?_
          (conv => arg 3; whnf); repeat ((first | (with_reducible apply sT); rfl | (with_reducible apply sF); rfl | (with_reducible apply sE); rfl); conv => arg 3; whnf)
          refine sat_idx o.t (by omega) (by rw [Int.toNat_natCast, Nat.zero_add, Int.toNat_natCast, List.getElem?_map, hu]; rfl) ?_
          (conv => arg 3; whnf); repeat ((first | (with_reducible apply sT); rfl | (with_reducible apply sF); rfl | (with_reducible apply sE); rfl); conv => arg 3; whnf)
          refine sat_br (fun hc => ?_) (fun hc => ?_)
          · exact absurd q1 (by simpa using hc)
          (conv => arg 3; whnf); repeat ((first | (with_reducible apply sT); rfl | (with_reducible apply sF); rfl | (with_reducible apply sE); rfl); conv => arg 3; whnf)
          refine sat_br (fun hc => ?_) (fun hc => ?_)
          · exact absurd (by simpa using hc) q2
          (conv => arg 3; whnf); repeat ((first | (with_reducible apply sT); rfl | (with_reducible apply sF); rfl | (with_reducible apply sE); rfl); conv => arg 3; whnf)
          refine sat_br (fun hc => ?_) (fun hc => ?_)
          · exact absurd (show o.to < 1 from of_decide_eq_true hc) (by omega)
          (conv => arg 3; whnf); repeat ((first | (with_reducible apply sT); rfl | (with_reducible apply sF); rfl | (with_reducible apply sE); rfl); conv => arg 3; whnf)
          refine sat_br (fun hc => ?_) (fun hc => ?_)
          · exact absurd (show o.to > nsv from of_decide_eq_true hc) (by omega)
          (conv => arg 3; whnf); repeat ((first | (with_reducible apply sT); rfl | (with_reducible apply sF); rfl | (with_reducible apply sE); rfl); conv => arg 3; whnf)
          refine sat_br (fun hc => ?_) (fun hc => ?_)
          · exact absurd q5 (by simpa using hc)
          (conv => arg 3; whnf); repeat ((first | (with_reducible apply sT); rfl | (with_reducible apply sF); rfl | (with_reducible apply sE); rfl); conv => arg 3; whnf)
          refine sat_br (fun hc => ?_) (fun hc => ?_)
          · have hk2 : o.kind = 2 := by simpa using hc
            (conv => arg 3; whnf); repeat ((first | (with_reducible apply sT); rfl | (with_reducible apply sF); rfl | (with_reducible apply sE); rfl); conv => arg 3; whnf)
            refine sat_br (fun hd => ?_) (fun hd => ?_)
            · (conv => arg 3; whnf); repeat ((first | (with_reducible apply sT); rfl | (with_reducible apply sF); rfl | (with_reducible apply sE); rfl); conv => arg 3; whnf)
              refine sat_br (fun he => ?_) (fun he => ?_)
              · exact absurd (q6 hk2 hd) (by simpa using he)
              (conv => arg 3; whnf); repeat ((first | (with_reducible apply sT); rfl | (with_reducible apply sF); rfl | (with_reducible apply sE); rfl); conv => arg 3; whnf)
              refine sat_rng (wrap64 (by omega) (by omega)) ?_
              exact sat_ret ⟨⟨j + 1, hb⟩, rfl, rfl, by show ms.length - (j + 1) < ms.length - j; omega⟩
            · (conv => arg 3; whnf); repeat ((first | (with_reducible apply sT); rfl | (with_reducible apply sF); rfl | (with_reducible apply sE); rfl); conv => arg 3; whnf)
              refine sat_rng (wrap64 (by omega) (by omega)) ?_
              exact sat_ret ⟨⟨j + 1, hb⟩, rfl, rfl, by show ms.length - (j + 1) < ms.length - j; omega⟩
          · (conv => arg 3; whnf); repeat ((first | (with_reducible apply sT); rfl | (with_reducible apply sF); rfl | (with_reducible apply sE); rfl); conv => arg 3; whnf)
            refine sat_rng (wrap64 (by omega) (by omega)) ?_
            exact sat_ret ⟨⟨j + 1, hb⟩, rfl, rfl, by show ms.length - (j + 1) < ms.length - j; omega⟩
        · (conv => arg 3; whnf); repeat ((first | (with_reducible apply sT); rfl | (with_reducible apply sF); rfl | (with_reducible apply sE); rfl); conv => arg 3; whnf)
          exact sat_ret ⟨rfl, rfl, rfl⟩
      · rintro ex fr' H' ⟨rfl, rfl, rfl⟩
        (conv => arg 3; whnf); repeat ((first | (with_reducible apply sT); rfl | (with_reducible apply sF); rfl | (with_reducible apply sE); rfl); conv => arg 3; whnf)
        refine sat_rng (wrap64 (by omega) (by omega)) ?_
        exact sat_ret (hnorm ⟨i + 1, ⟨nme, nsv, Nterm, Nvote, Nrole, Nlead, Ncommit, Nleft, Nlog, some kN, Nnxt, Nmat⟩, cap', xs', vm2, by omega, hL2, hinv2, hleft2, hvi3, rfl, rfl⟩ rfl h1 _ _ rfl rfl)
  (conv => arg 3; whnf); repeat ((first | (with_reducible apply sT); rfl | (with_reducible apply sF); rfl | (with_reducible apply sE); rfl); conv => arg 3; whnf)
  refine sat_br (fun k3 => ?_) (fun k3 => ?_)
  · (conv => arg 3; whnf); repeat ((first | (with_reducible apply sT); rfl | (with_reducible apply sF); rfl | (with_reducible apply sE); rfl); conv => arg 3; whnf)
    have kdu := k_durable ⟨nme, nsv, term, vote, role, lead, commit, nleft, log, some ks, nxt, mat⟩ cap xs hL hinv.li.ho (by have := hinv.l2; dsimp only at this ⊢; omega)
    have kn := k_new nme nsv term vote (owned log) (owned_ok hinv.li.ho) (by rw [owned_len]; have := hinv.l2; dsimp only at this; omega) draw (wf_i64 wd)
    have hok2 := again_ok hinv
    obtain ⟨hinv2, hleft2⟩ := new_inv hok2 (owned_ok hinv.li.ho) draw
    have hvi2 : VI vm (newN nme nsv term vote (owned log) (pat draw)) := fun p hp => hvi p hp
    have hL2 : LogR (newN nme nsv term vote (owned log) (pat draw)).log (esT (owned (owned log))) (some (owned log).length) := by have := LogR.full (owned (owned log)); rw [owned_len (owned log)] at this; exact this
    dsimp only at kdu hok2
    obtain ⟨N', hN'⟩ : ∃ N', N' = newN nme nsv term vote (owned log) (pat draw) := ⟨_, rfl⟩
    have heme : N'.me = nme := by rw [hN']; rfl
    have hesv : N'.sv = nsv := by rw [hN']; rfl
    have hT : term ≤ N'.term := by rw [hN']; exact Int.le_refl _
    have hC : (0 : Int) ≤ N'.commit := by rw [hN']; exact Int.le_refl _
    have hvo : N'.votes = none := by rw [hN']; rfl
    have hfew : ([] : List Mo).length ≤ 5 := by decide
    have hM : ∀ o ∈ ([] : List Mo), o.frm = nme ∧ o.to ≠ nme ∧ 1 ≤ o.to ∧ o.to ≤ nsv ∧ o.term = N'.term ∧ (o.kind = 2 → o.yes = true → N'.vote = o.to) := fun o ho => by cases ho
    rw [← hN'] at hinv2 hleft2 hvi2 hL2 kn
    clear hN'
    obtain ⟨Nme, Nsv, Nterm, Nvote, Nrole, Nlead, Ncommit, Nleft, Nlog, Nvotes, Nnxt, Nmat⟩ := N'
    dsimp only at hvo
    subst hvo
    (conv => arg 3; whnf); repeat ((first | (with_reducible apply sT); rfl | (with_reducible apply sF); rfl | (with_reducible apply sE); rfl); conv => arg 3; whnf)
    refine sat_call kdu ?_
    rintro r H' ⟨rfl, rfl⟩
    (conv => arg 3; whnf); repeat ((first | (with_reducible apply sT); rfl | (with_reducible apply sF); rfl | (with_reducible apply sE); rfl); conv => arg 3; whnf)
    rw [owned_take]
    refine sat_call kn ?_
    rintro r H' (⟨_, rfl, rfl⟩ | ⟨hno, rfl, rfl⟩)
    rotate_left
    · exact absurd hok2 hno
    generalize hcp : some (owned log).length = cap' at hL2 ⊢
    generalize hxp : esT (owned (owned log)) = xs' at hL2 ⊢
    obtain ⟨e1, e2⟩ := And.intro heme.symm hesv.symm
    dsimp only at e1 e2
    subst e1 e2
    clear heme hesv
    have klg := hinv2.li
    have kdu := k_durable ⟨nme, nsv, Nterm, Nvote, Nrole, Nlead, Ncommit, Nleft, Nlog, none, Nnxt, Nmat⟩ cap' xs' hL2 klg.ho (by have := hinv2.l2; dsimp only at this ⊢; omega)
    have kcm := k_commit ⟨nme, nsv, Nterm, Nvote, Nrole, Nlead, Ncommit, Nleft, Nlog, none, Nnxt, Nmat⟩ cap' xs'
    dsimp only at hT hC kcm kdu hM
    (conv => arg 3; whnf); repeat ((first | (with_reducible apply sT); rfl | (with_reducible apply sF); rfl | (with_reducible apply sE); rfl); conv => arg 3; whnf)
    refine sat_call kdu ?_
    rintro r H' ⟨rfl, rfl⟩
    (conv => arg 3; whnf); repeat ((first | (with_reducible apply sT); rfl | (with_reducible apply sF); rfl | (with_reducible apply sE); rfl); conv => arg 3; whnf)
    refine sat_br (fun hb => ?_) (fun hb => ?_)
    · exact absurd (show Nterm < term from of_decide_eq_true hb) (by omega)
    (conv => arg 3; whnf); repeat ((first | (with_reducible apply sT); rfl | (with_reducible apply sF); rfl | (with_reducible apply sE); rfl); conv => arg 3; whnf)
    refine sat_call kcm ?_
    rintro r H' ⟨rfl, rfl⟩
    (conv => arg 3; whnf); repeat ((first | (with_reducible apply sT); rfl | (with_reducible apply sF); rfl | (with_reducible apply sE); rfl); conv => arg 3; whnf)
    refine sat_br (fun hb => ?_) (fun hb => ?_)
    · exact absurd (show Ncommit < 0 from of_decide_eq_true hb) (by omega)
    (conv => arg 3; whnf); repeat ((first | (with_reducible apply sT); rfl | (with_reducible apply sF); rfl | (with_reducible apply sE); rfl); conv => arg 3; whnf)
    refine sat_call kcm ?_
    rintro r H' ⟨rfl, rfl⟩
    (conv => arg 3; whnf); repeat ((first | (with_reducible apply sT); rfl | (with_reducible apply sF); rfl | (with_reducible apply sE); rfl); conv => arg 3; whnf)
    refine sat_asrt (vt_fits Nterm vm) ?_
    (conv => arg 3; whnf); repeat ((first | (with_reducible apply sT); rfl | (with_reducible apply sF); rfl | (with_reducible apply sE); rfl); conv => arg 3; whnf)
    refine sat_keyP (P := fun w => VI w ⟨nme, nsv, Nterm, Nvote, Nrole, Nlead, Ncommit, Nleft, Nlog, none, Nnxt, Nmat⟩) (G := _) ?_ (fun key => by
      rcases mfind_vt Nterm vm with hmf | ⟨v, hmf, hvv⟩
      · rw [hmf]
        (conv => arg 3; whnf); repeat ((first | (with_reducible apply sT); rfl | (with_reducible apply sF); rfl | (with_reducible apply sE); rfl); conv => arg 3; whnf)
        refine sat_br (fun hb => ?_) (fun hb => ?_)
        rotate_left
        · (conv => arg 3; whnf); repeat ((first | (with_reducible apply sT); rfl | (with_reducible apply sF); rfl | (with_reducible apply sE); rfl); conv => arg 3; whnf)
          have hw := hvi2
          generalize vm = w at hw ⊢
          exact key w hw
        · have hb : Nvote > 0 := of_decide_eq_true hb
          have hvi3 := VI.put hvi2 hb
          (conv => arg 3; whnf); repeat ((first | (with_reducible apply sT); rfl | (with_reducible apply sF); rfl | (with_reducible apply sE); rfl); conv => arg 3; whnf)
          refine sat_asrt (vt_fits Nterm vm) ?_
          (conv => arg 3; whnf); repeat ((first | (with_reducible apply sT); rfl | (with_reducible apply sF); rfl | (with_reducible apply sE); rfl); conv => arg 3; whnf)
          rw [show mput (i6 Nterm) (i6 Nvote) (VT vm) = VT (vput Nterm Nvote vm) from mput_vt _ _ _]
          exact key _ hvi3
      · rw [hmf]
        obtain rfl : Nvote = v := (hvi2 _ hvv).2.1 rfl
        (conv => arg 3; whnf); repeat ((first | (with_reducible apply sT); rfl | (with_reducible apply sF); rfl | (with_reducible apply sE); rfl); conv => arg 3; whnf)
        refine sat_br (fun hb => ?_) (fun hb => ?_)
        · simp at hb
        (conv => arg 3; whnf); repeat ((first | (with_reducible apply sT); rfl | (with_reducible apply sF); rfl | (with_reducible apply sE); rfl); conv => arg 3; whnf)
        refine sat_br (fun hb => ?_) (fun hb => ?_)
        rotate_left
        · (conv => arg 3; whnf); repeat ((first | (with_reducible apply sT); rfl | (with_reducible apply sF); rfl | (with_reducible apply sE); rfl); conv => arg 3; whnf)
          have hw := hvi2
          generalize vm = w at hw ⊢
          exact key w hw
        · have hb : Nvote > 0 := of_decide_eq_true hb
          have hvi3 := VI.put hvi2 hb
          (conv => arg 3; whnf); repeat ((first | (with_reducible apply sT); rfl | (with_reducible apply sF); rfl | (with_reducible apply sE); rfl); conv => arg 3; whnf)
          refine sat_asrt (vt_fits Nterm vm) ?_
          (conv => arg 3; whnf); repeat ((first | (with_reducible apply sT); rfl | (with_reducible apply sF); rfl | (with_reducible apply sE); rfl); conv => arg 3; whnf)
          rw [show mput (i6 Nterm) (i6 Nvote) (VT vm) = VT (vput Nterm Nvote vm) from mput_vt _ _ _]
          exact key _ hvi3
      )
    intro vm2 hvi3
    dsimp only
    refine sat_loopOf mkX_ops (σ := OuSt ([] : List Mo)) (fun x => [(2, pt 0), (5, pt 1), (7, .mp 3), (8, ti Nterm), (9, ti Ncommit), (16, pt 4), (53, .t (.sl g0 88 X)), (54, ti (X.length : Int)), (55, ti (i : Int)), (154, .sl 6 0 [] 0 ([] : List Mo).length none), (155, ti (([] : List Mo).length : Int)), (156, ti (x.j : Int))])
      (fun x => .var (.t (rvS nme nsv term0 vote0 f0 L0)) :: .var (nodeV ⟨nme, nsv, Nterm, Nvote, Nrole, Nlead, Ncommit, Nleft, Nlog, none, Nnxt, Nmat⟩ 2 cap') :: .row 40 xs' :: (voteO (none : Option (List Int)) ++ [.map (VT vm2), .var (.agg [ti Nterm, ti Nvote, .sl 5 0 [] 0 Nlog.length (some Nlog.length)]), .row 40 (esT (owned Nlog)), .row 46 (([] : List Mo).map Mo.t)])) (fun x => ([] : List Mo).length - x.j)
      (fun ex fr' H' => ex = .exit 3 ∧ fr' = [(2, pt 0), (4, .undef), (5, pt 1), (7, .mp 3), (8, ti Nterm), (9, ti Ncommit), (53, .t (.sl g0 88 X)), (54, ti (X.length : Int)), (55, ti (i : Int))] ∧
        H' = .var (.t (rvS nme nsv term0 vote0 f0 L0)) :: .var (nodeV ⟨nme, nsv, Nterm, Nvote, Nrole, Nlead, Ncommit, Nleft, Nlog, none, Nnxt, Nmat⟩ 2 cap') :: .row 40 xs' :: (voteO (none : Option (List Int)) ++ [.map (VT vm2), .var (.agg [ti Nterm, ti Nvote, .sl 5 0 [] 0 Nlog.length (some Nlog.length)]), .row 40 (esT (owned Nlog)), .row 46 (([] : List Mo).map Mo.t)])) ⟨0, Nat.zero_le _⟩ ?_ ?_
    · rintro ⟨j, hj⟩
      dsimp only
      (conv => arg 3; whnf); repeat ((first | (with_reducible apply sT); rfl | (with_reducible apply sF); rfl | (with_reducible apply sE); rfl); conv => arg 3; whnf)
      first | (exact sat_ret ⟨rfl, rfl, rfl⟩) | (refine sat_brF (by simp) ?_; ((conv => arg 3; whnf); repeat ((first | (with_reducible apply sT); rfl | (with_reducible apply sF); rfl | (with_reducible apply sE); rfl); conv => arg 3; whnf)); exact sat_ret ⟨rfl, rfl, rfl⟩)
    · rintro ex fr' H' ⟨rfl, rfl, rfl⟩
      (conv => arg 3; whnf); repeat ((first | (with_reducible apply sT); rfl | (with_reducible apply sF); rfl | (with_reducible apply sE); rfl); conv => arg 3; whnf)
      refine sat_rng (wrap64 (by omega) (by omega)) ?_
      exact sat_ret (hnorm ⟨i + 1, ⟨nme, nsv, Nterm, Nvote, Nrole, Nlead, Ncommit, Nleft, Nlog, none, Nnxt, Nmat⟩, cap', xs', vm2, by omega, hL2, hinv2, hleft2, hvi3, rfl, rfl⟩ rfl h1 _ _ rfl rfl)
  · have hinv2 := hinv
    have hleft2 := hleft
    have hvi2 := hvi
    have hL2 := hL
    have hT : term ≤ term := Int.le_refl _
    have hC : commit ≤ commit := Int.le_refl _
    have hfew : ([] : List Mo).length ≤ 5 := by decide
    have hM : ∀ o ∈ ([] : List Mo), o.frm = nme ∧ o.to ≠ nme ∧ 1 ≤ o.to ∧ o.to ≤ nsv ∧ o.term = term ∧ (o.kind = 2 → o.yes = true → vote = o.to) := fun o ho => by cases ho
    have klg := hinv2.li
    have kdu := k_durable ⟨nme, nsv, term, vote, role, lead, commit, nleft, log, some ks, nxt, mat⟩ cap xs hL2 klg.ho (by have := hinv2.l2; dsimp only at this ⊢; omega)
    have kcm := k_commit ⟨nme, nsv, term, vote, role, lead, commit, nleft, log, some ks, nxt, mat⟩ cap xs
    dsimp only at kcm kdu
    (conv => arg 3; whnf); repeat ((first | (with_reducible apply sT); rfl | (with_reducible apply sF); rfl | (with_reducible apply sE); rfl); conv => arg 3; whnf)
    refine sat_call kdu ?_
    rintro r H' ⟨rfl, rfl⟩
    (conv => arg 3; whnf); repeat ((first | (with_reducible apply sT); rfl | (with_reducible apply sF); rfl | (with_reducible apply sE); rfl); conv => arg 3; whnf)
    refine sat_br (fun hb => ?_) (fun hb => ?_)
    · exact absurd (show term < term from of_decide_eq_true hb) (by omega)
    (conv => arg 3; whnf); repeat ((first | (with_reducible apply sT); rfl | (with_reducible apply sF); rfl | (with_reducible apply sE); rfl); conv => arg 3; whnf)
    refine sat_call kcm ?_
    rintro r H' ⟨rfl, rfl⟩
    (conv => arg 3; whnf); repeat ((first | (with_reducible apply sT); rfl | (with_reducible apply sF); rfl | (with_reducible apply sE); rfl); conv => arg 3; whnf)
    refine sat_br (fun hb => ?_) (fun hb => ?_)
    · exact absurd (show commit < commit from of_decide_eq_true hb) (by omega)
    (conv => arg 3; whnf); repeat ((first | (with_reducible apply sT); rfl | (with_reducible apply sF); rfl | (with_reducible apply sE); rfl); conv => arg 3; whnf)
    refine sat_call kcm ?_
    rintro r H' ⟨rfl, rfl⟩
    (conv => arg 3; whnf); repeat ((first | (with_reducible apply sT); rfl | (with_reducible apply sF); rfl | (with_reducible apply sE); rfl); conv => arg 3; whnf)
    refine sat_asrt (vt_fits term vm) ?_
    (conv => arg 3; whnf); repeat ((first | (with_reducible apply sT); rfl | (with_reducible apply sF); rfl | (with_reducible apply sE); rfl); conv => arg 3; whnf)
    refine sat_keyP (P := fun w => VI w ⟨nme, nsv, term, vote, role, lead, commit, nleft, log, some ks, nxt, mat⟩) (G := _) ?_ (fun key => by
      rcases mfind_vt term vm with hmf | ⟨v, hmf, hvv⟩
      · rw [hmf]
        (conv => arg 3; whnf); repeat ((first | (with_reducible apply sT); rfl | (with_reducible apply sF); rfl | (with_reducible apply sE); rfl); conv => arg 3; whnf)
        refine sat_br (fun hb => ?_) (fun hb => ?_)
        rotate_left
        · (conv => arg 3; whnf); repeat ((first | (with_reducible apply sT); rfl | (with_reducible apply sF); rfl | (with_reducible apply sE); rfl); conv => arg 3; whnf)
          have hw := hvi2
          generalize vm = w at hw ⊢
          exact key w hw
        · have hb : vote > 0 := of_decide_eq_true hb
          have hvi3 := VI.put hvi2 hb
          (conv => arg 3; whnf); repeat ((first | (with_reducible apply sT); rfl | (with_reducible apply sF); rfl | (with_reducible apply sE); rfl); conv => arg 3; whnf)
          refine sat_asrt (vt_fits term vm) ?_
          (conv => arg 3; whnf); repeat ((first | (with_reducible apply sT); rfl | (with_reducible apply sF); rfl | (with_reducible apply sE); rfl); conv => arg 3; whnf)
          rw [show mput (i6 term) (i6 vote) (VT vm) = VT (vput term vote vm) from mput_vt _ _ _]
          exact key _ hvi3
      · rw [hmf]
        obtain rfl : vote = v := (hvi2 _ hvv).2.1 rfl
        (conv => arg 3; whnf); repeat ((first | (with_reducible apply sT); rfl | (with_reducible apply sF); rfl | (with_reducible apply sE); rfl); conv => arg 3; whnf)
        refine sat_br (fun hb => ?_) (fun hb => ?_)
        · simp at hb
        (conv => arg 3; whnf); repeat ((first | (with_reducible apply sT); rfl | (with_reducible apply sF); rfl | (with_reducible apply sE); rfl); conv => arg 3; whnf)
        refine sat_br (fun hb => ?_) (fun hb => ?_)
        rotate_left
        · (conv => arg 3; whnf); repeat ((first | (with_reducible apply sT); rfl | (with_reducible apply sF); rfl | (with_reducible apply sE); rfl); conv => arg 3; whnf)
          have hw := hvi2
          generalize vm = w at hw ⊢
          exact key w hw
        · have hb : vote > 0 := of_decide_eq_true hb
          have hvi3 := VI.put hvi2 hb
          (conv => arg 3; whnf); repeat ((first | (with_reducible apply sT); rfl | (with_reducible apply sF); rfl | (with_reducible apply sE); rfl); conv => arg 3; whnf)
          refine sat_asrt (vt_fits term vm) ?_
          (conv => arg 3; whnf); repeat ((first | (with_reducible apply sT); rfl | (with_reducible apply sF); rfl | (with_reducible apply sE); rfl); conv => arg 3; whnf)
          rw [show mput (i6 term) (i6 vote) (VT vm) = VT (vput term vote vm) from mput_vt _ _ _]
          exact key _ hvi3
      )
    intro vm2 hvi3
    dsimp only
    refine sat_loopOf mkX_ops (σ := OuSt ([] : List Mo)) (fun x => [(2, pt 0), (5, pt 1), (7, .mp 4), (8, ti term), (9, ti commit), (16, pt 5), (53, .t (.sl g0 88 X)), (54, ti (X.length : Int)), (55, ti (i : Int)), (154, .sl 7 0 [] 0 ([] : List Mo).length none), (155, ti (([] : List Mo).length : Int)), (156, ti (x.j : Int))])
      (fun x => .var (.t (rvS nme nsv term0 vote0 f0 L0)) :: .var (nodeV ⟨nme, nsv, term, vote, role, lead, commit, nleft, log, some ks, nxt, mat⟩ 2 cap) :: .row 40 xs :: (voteO (some ks : Option (List Int)) ++ [.map (VT vm2), .var (.agg [ti term, ti vote, .sl 6 0 [] 0 log.length (some log.length)]), .row 40 (esT (owned log)), .row 46 (([] : List Mo).map Mo.t)])) (fun x => ([] : List Mo).length - x.j)
      (fun ex fr' H' => ex = .exit 3 ∧ fr' = [(2, pt 0), (4, .undef), (5, pt 1), (7, .mp 4), (8, ti term), (9, ti commit), (53, .t (.sl g0 88 X)), (54, ti (X.length : Int)), (55, ti (i : Int))] ∧
        H' = .var (.t (rvS nme nsv term0 vote0 f0 L0)) :: .var (nodeV ⟨nme, nsv, term, vote, role, lead, commit, nleft, log, some ks, nxt, mat⟩ 2 cap) :: .row 40 xs :: (voteO (some ks : Option (List Int)) ++ [.map (VT vm2), .var (.agg [ti term, ti vote, .sl 6 0 [] 0 log.length (some log.length)]), .row 40 (esT (owned log)), .row 46 (([] : List Mo).map Mo.t)])) ⟨0, Nat.zero_le _⟩ ?_ ?_
    · rintro ⟨j, hj⟩
      dsimp only
      (conv => arg 3; whnf); repeat ((first | (with_reducible apply sT); rfl | (with_reducible apply sF); rfl | (with_reducible apply sE); rfl); conv => arg 3; whnf)
      first | (exact sat_ret ⟨rfl, rfl, rfl⟩) | (refine sat_brF (by simp) ?_; ((conv => arg 3; whnf); repeat ((first | (with_reducible apply sT); rfl | (with_reducible apply sF); rfl | (with_reducible apply sE); rfl); conv => arg 3; whnf)); exact sat_ret ⟨rfl, rfl, rfl⟩)
    · rintro ex fr' H' ⟨rfl, rfl, rfl⟩
      (conv => arg 3; whnf); repeat ((first | (with_reducible apply sT); rfl | (with_reducible apply sF); rfl | (with_reducible apply sE); rfl); conv => arg 3; whnf)
      refine sat_rng (wrap64 (by omega) (by omega)) ?_
      exact sat_ret (hnorm ⟨i + 1, ⟨nme, nsv, term, vote, role, lead, commit, nleft, log, some ks, nxt, mat⟩, cap, xs, vm2, by omega, hL2, hinv2, hleft2, hvi3, rfl, rfl⟩ rfl h1 _ _ rfl rfl)
end Stk
