/- LedgerOnce: a request that comes again changes nothing and is answered as it was. -/
import Derived.Test.YthkbahbbdacgeaaDoorZj12
import Derived.Test.YthkbahbbdacgeaaDoorZOne
namespace Stk
open Go
set_option maxRecDepth 100000
set_option linter.unusedSimpArgs false
set_option linter.unusedVariables false
set_option maxHeartbeats 4000000
theorem findI_pair {h y : List Tr} (hh : HF h) : ∀ {im : List (List Tr × List Tr)}, KeysOK im → findI h im = some y → (h, y) ∈ im
  | [], _, e => by simp [findI] at e
  | (a, d) :: r, hk, e => by
    simp only [findI] at e
    split at e
    · rename_i he
      rw [hash_eq hh (hk (a, d) (by simp)).1 he, Option.some.inj e]; simp
    · exact List.mem_cons_of_mem _ (findI_pair hh (fun p hp => hk p (by simp [hp])) e)
theorem OInv.perm {l : Lg} (h : OInv l) {im : List (List Tr × List Tr)} (hp : im.Perm l.im) : OInv { l with im := im } := by
  obtain ⟨⟨⟨a, b, c, d⟩, e, f, g, i⟩, dk, q1, q2, q3, q4⟩ := h
  have hk : KeysOK im := fun q hq => c q (hp.mem_iff.1 hq)
  have hd : (im.map Prod.fst).Nodup := (hp.map Prod.fst).nodup_iff.2 dk
  refine ⟨⟨⟨a, b, hk, d⟩, e, fun x hx => ?_, g, fun p hq => i p (hp.mem_iff.1 hq)⟩, hd, q1, q2, q3, q4⟩
  have := f x hx
  cases hf : findI x.hash l.im with
  | none => rw [hf] at this; cases this
  | some y =>
    have hm := findI_pair (g x hx) c hf
    show (findI x.hash im).isSome = true
    rw [findI_of_mem (g x hx) hk hd (hp.mem_iff.2 hm)]; rfl
structure OncSt (A : List Act) (C : Cm) (R : Rp) where
  i : Nat
  l : Lg
  hi : i ≤ A.length
  inv : OInv l
  hq : l.q C.client = ⟨C.seq, R⟩
theorem l_once (x0 x1 x2 : Tr) (h0 : TrD (.int .i64) x0) (h1 : TrD (.sl 40 ActD) x1) (h2 : TrD ActD x2) : ACalls PP GG F.law23_LedgerOnce (toAVs [x0, x1, x2]) [] fun r _ => r = .t (.bool true) := by
  obtain ⟨n, rfl, wn⟩ := h0
  obtain ⟨f0, X, rfl, _, hlim, hX⟩ := h1
  obtain ⟨A, rfl, hA⟩ := acts_of hX
  obtain ⟨g, rfl, hg⟩ := act_of h2
  have hXl : (actsT A).length * TyD.bytes ActD ≤ 140737488351232 := hlim
  have el : (actsT A).length = A.length := by simp
  rw [el, show TyD.bytes ActD = 112 from by decide] at hXl
  clear hlim hX
  have kh := k_heavy [g] (by simp)
  have kg := k_cmd g hg
  have hlg : hvy [g] = false → g.c.data.length ≤ 2 ^ 40 := fun h => (light (A := [g]) (fun x hx => by rw [List.mem_singleton.1 hx]; exact hg) h).2 g (by simp)
  have hgo := fun h => Act.cmd_ok hg (hlg h)
  generalize hC : g.cmd = C at *
  generalize hvy [g] = hv1 at *
  obtain ⟨⟨gk, gc, gs, gn, ge, gy, gh, gd⟩, gf, gp⟩ := g
  show ACalls PP GG F.law23_LedgerOnce [ti n, .t (.sl f0 40 (actsT A)), .t (Act.t ⟨⟨gk, gc, gs, gn, ge, gy, gh, gd⟩, gf, gp⟩)] [] _
  refine K.law23_LedgerOnce.callsC rfl ?_
  (conv => arg 3; whnf); repeat ((first | (with_reducible apply sT); rfl | (with_reducible apply sF); rfl | (with_reducible apply sE); rfl); conv => arg 3; whnf)
  refine sat_call k_awake ?_
  rintro r H' ⟨rfl, rfl⟩
  (conv => arg 3; whnf); repeat ((first | (with_reducible apply sT); rfl | (with_reducible apply sF); rfl | (with_reducible apply sE); rfl); conv => arg 3; whnf)
  refine sat_call (k_heavy A (by omega)) ?_
  rintro r H' ⟨rfl, rfl⟩
  (conv => arg 3; whnf); repeat ((first | (with_reducible apply sT); rfl | (with_reducible apply sF); rfl | (with_reducible apply sE); rfl); conv => arg 3; whnf)
  refine sat_br (fun hv => ?_) (fun hv => ?_)
  · (conv => arg 3; whnf); repeat ((first | (with_reducible apply sT); rfl | (with_reducible apply sF); rfl | (with_reducible apply sE); rfl); conv => arg 3; whnf)
    exact sat_ret rfl
  obtain ⟨hA4, hAd⟩ := light hA hv
  (conv => arg 3; whnf); repeat ((first | (with_reducible apply sT); rfl | (with_reducible apply sF); rfl | (with_reducible apply sE); rfl); conv => arg 3; whnf)
  refine sat_call kh ?_
  rintro r H' ⟨rfl, rfl⟩
  (conv => arg 3; whnf); repeat ((first | (with_reducible apply sT); rfl | (with_reducible apply sF); rfl | (with_reducible apply sE); rfl); conv => arg 3; whnf)
  refine sat_br (fun hv => ?_) (fun hv => ?_)
  · (conv => arg 3; whnf); repeat ((first | (with_reducible apply sT); rfl | (with_reducible apply sF); rfl | (with_reducible apply sE); rfl); conv => arg 3; whnf)
    exact sat_ret rfl
  have hCo := hgo hv
  (conv => arg 3; whnf); repeat ((first | (with_reducible apply sT); rfl | (with_reducible apply sF); rfl | (with_reducible apply sE); rfl); conv => arg 3; whnf)
  refine sat_call (k_nodesOf n) ?_
  rintro r H' ⟨rfl, rfl⟩
  have hno := nodesOf_in n
  generalize nodesOf n = nn at hno ⊢
  (conv => arg 3; whnf); repeat ((first | (with_reducible apply sT); rfl | (with_reducible apply sF); rfl | (with_reducible apply sE); rfl); conv => arg 3; whnf)
  refine sat_call (k_new_l nn hno) ?_
  rintro r H' ⟨rfl, rfl⟩
  have hi0 := OInv.new hno
  have ka0 := k_apply (Lg.new nn) hi0.inv.ok C hCo
  have hi1 := OInv.apply hi0 hCo
  have hfst := fun h : Asks C => h.first nn
  generalize hL0 : Lg.new nn = L0 at *
  generalize L0.apply C = R0 at *
  obtain ⟨nodes, im, eps, q1, q2, q3, q4⟩ := L0
  obtain ⟨L1, R⟩ := R0
  obtain ⟨ck, cc, cs, cn, ce, cy, ch, cd⟩ := C
  dsimp only [Lg.H, Lg.D, Lg.v, Cm.l, Cm.o, Act.l, Rp.a] at *
  (conv => arg 3; whnf); repeat ((first | (with_reducible apply sT); rfl | (with_reducible apply sF); rfl | (with_reducible apply sE); rfl); conv => arg 3; whnf)
  refine sat_call kg ?_
  rintro r H' ⟨rfl, rfl⟩
  (conv => arg 3; whnf); repeat ((first | (with_reducible apply sT); rfl | (with_reducible apply sF); rfl | (with_reducible apply sE); rfl); conv => arg 3; whnf)
  by_cases hK : ck = 1 ∨ ck = 2
  rotate_left
  · refine sat_brT (by simp; omega) ?_
    (conv => arg 3; whnf); repeat ((first | (with_reducible apply sT); rfl | (with_reducible apply sF); rfl | (with_reducible apply sE); rfl); conv => arg 3; whnf)
    refine sat_brT (by simp; omega) ?_
    (conv => arg 3; whnf); repeat ((first | (with_reducible apply sT); rfl | (with_reducible apply sF); rfl | (with_reducible apply sE); rfl); conv => arg 3; whnf)
    exact sat_ret rfl
  refine sat_br (fun k1 => ?_) (fun k1 => ?_)
  focus
    have k1 : ¬ ck = 1 := by simpa using k1
    (conv => arg 3; whnf); repeat ((first | (with_reducible apply sT); rfl | (with_reducible apply sF); rfl | (with_reducible apply sE); rfl); conv => arg 3; whnf)
    refine sat_brF (by simp; omega) ?_
    (conv => arg 3; whnf); repeat ((first | (with_reducible apply sT); rfl | (with_reducible apply sF); rfl | (with_reducible apply sE); rfl); conv => arg 3; whnf)
  rotate_left
  focus
    (conv => arg 3; whnf); repeat ((first | (with_reducible apply sT); rfl | (with_reducible apply sF); rfl | (with_reducible apply sE); rfl); conv => arg 3; whnf)
  all_goals
    clear k1
    refine sat_br (fun k2 => ?_) (fun k2 => ?_)
    · (conv => arg 3; whnf); repeat ((first | (with_reducible apply sT); rfl | (with_reducible apply sF); rfl | (with_reducible apply sE); rfl); conv => arg 3; whnf)
      exact sat_ret rfl
    have k2 : ¬ cc < 1 := by simpa using k2
    (conv => arg 3; whnf); repeat ((first | (with_reducible apply sT); rfl | (with_reducible apply sF); rfl | (with_reducible apply sE); rfl); conv => arg 3; whnf)
    refine sat_br (fun k3 => ?_) (fun k3 => ?_)
    · (conv => arg 3; whnf); repeat ((first | (with_reducible apply sT); rfl | (with_reducible apply sF); rfl | (with_reducible apply sE); rfl); conv => arg 3; whnf)
      exact sat_ret rfl
    have k3 : ¬ cc > 4 := by simpa using k3
    (conv => arg 3; whnf); repeat ((first | (with_reducible apply sT); rfl | (with_reducible apply sF); rfl | (with_reducible apply sE); rfl); conv => arg 3; whnf)
    refine sat_br (fun k4 => ?_) (fun k4 => ?_)
    · (conv => arg 3; whnf); repeat ((first | (with_reducible apply sT); rfl | (with_reducible apply sF); rfl | (with_reducible apply sE); rfl); conv => arg 3; whnf)
      exact sat_ret rfl
    have k4 : ¬ cs < 1 := by simpa using k4
    have hAsk : Asks ⟨ck, cc, cs, cn, ce, cy, ch, cd⟩ := ⟨hK, ⟨by show 1 ≤ cc; omega, by show cc ≤ 4; omega⟩, by show 1 ≤ cs; omega⟩
    have hq1 := hfst hAsk
    have rf : R.t.fits (.agg [.int .i64, .int .i64, .arr 32 (.int .u8)]) = true := rp_fits hi1.2
    have re := eqb_self rf
    clear hfst
    (conv => arg 3; whnf); repeat ((first | (with_reducible apply sT); rfl | (with_reducible apply sF); rfl | (with_reducible apply sE); rfl); conv => arg 3; whnf)
    rw [show List.take cd.length (List.drop 0 cd) = cd by simp]
    refine sat_call ka0 ?_
    rintro r H' ⟨rfl, rfl⟩
    (conv => arg 3; whnf); repeat ((first | (with_reducible apply sT); rfl | (with_reducible apply sF); rfl | (with_reducible apply sE); rfl); conv => arg 3; whnf)
    rw [el]
    refine sat_loopOf mkX_ops (σ := OncSt A ⟨ck, cc, cs, cn, ce, cy, ch, cd⟩ R) (fun x => [(5, pt 0), (7, pt 1), (9, pt 4), (10, pt 6), (69, .t (.sl f0 40 (actsT A))), (70, ti A.length), (71, ti x.i)])
      (fun x => [.var (.t (Act.t ⟨⟨gk, gc, gs, gn, ge, gy, gh, gd⟩, gf, gp⟩)), .var (x.l.w 2 3), .map (imT x.l.im), .row 37 (x.l.eps.map Ep.t), .var (.agg [.t (.int .u8 ck), ti cc, ti cs, ti cn, ti ce, tb cy, .t (.arr 32 ch), .sl 5 0 [] 0 cd.length none]), .row 1 cd, .var (.t R.t)]) (fun x => A.length - x.i)
      (fun ex fr' H' => ex = .exit 0 ∧ fr' = [(5, pt 0), (6, .undef), (7, pt 1), (9, pt 4), (10, pt 6)] ∧ ∃ x : OncSt A ⟨ck, cc, cs, cn, ce, cy, ch, cd⟩ R, H' = [.var (.t (Act.t ⟨⟨gk, gc, gs, gn, ge, gy, gh, gd⟩, gf, gp⟩)), .var (x.l.w 2 3), .map (imT x.l.im), .row 37 (x.l.eps.map Ep.t), .var (.agg [.t (.int .u8 ck), ti cc, ti cs, ti cn, ti ce, tb cy, .t (.arr 32 ch), .sl 5 0 [] 0 cd.length none]), .row 1 cd, .var (.t R.t)]) ⟨0, L1, Nat.zero_le _, hi1.1, hq1⟩ ?_ ?_
    · rintro ⟨i, l, hi, inv, hq⟩
      dsimp only [Lg.w]
      (conv => arg 3; whnf); repeat ((first | (with_reducible apply sT); rfl | (with_reducible apply sF); rfl | (with_reducible apply sE); rfl); conv => arg 3; whnf)
      refine sat_br (fun h => ?_) (fun h => ?_)
      rotate_left
      · (conv => arg 3; whnf); repeat ((first | (with_reducible apply sT); rfl | (with_reducible apply sF); rfl | (with_reducible apply sE); rfl); conv => arg 3; whnf)
        exact sat_ret ⟨rfl, rfl, ⟨i, l, hi, inv, hq⟩, rfl⟩
      have h : i < A.length := by have := of_decide_eq_true h; omega
      have hu : A[i]? = some A[i] := List.getElem?_eq_getElem h
      generalize A[i] = a at hu
      have hak := hA a (List.mem_of_getElem? hu)
      have hac := Act.cmd_ok hak (hAd a (List.mem_of_getElem? hu))
      have kc := k_cmd a hak
      have ka := k_apply l inv.inv.ok a.cmd hac
      have hi2 := OInv.apply inv hac
      have hq2 := fun hn => apply_q (l := l) (c := a.cmd) (k := cc) hAsk.client hn
      generalize a.cmd = B at *
      generalize l.apply B = R2 at *
      obtain ⟨l2, r2⟩ := R2
      have kcp := k_copy l2 hi2.1
      have kag := k_apply l2 hi2.1.inv.ok ⟨ck, cc, cs, cn, ce, cy, ch, cd⟩ hCo
      obtain ⟨⟨kind, client, seq, node, epoch, yes, hash, data⟩, f, pick⟩ := a
      obtain ⟨bkind, bclient, bseq, bnode, bepoch, byes, bhash, bdata⟩ := B
      dsimp only [Lg.H, Lg.D, Lg.v, Cm.l, Cm.o, Act.l, Rp.a] at kc ka hi2 hq2 kcp kag hq ⊢
      (conv => arg 3; whnf); repeat ((first | (with_reducible apply sT); rfl | (with_reducible apply sF); rfl | (with_reducible apply sE); rfl); conv => arg 3; whnf)
      refine sat_idx (Act.t ⟨⟨kind, client, seq, node, epoch, yes, hash, data⟩, f, pick⟩) (by omega) (by rw [Int.toNat_natCast, List.getElem?_map, hu]; rfl) ?_
      (conv => arg 3; whnf); repeat ((first | (with_reducible apply sT); rfl | (with_reducible apply sF); rfl | (with_reducible apply sE); rfl); conv => arg 3; whnf)
      refine sat_call kc ?_
      rintro r H' ⟨rfl, rfl⟩
      (conv => arg 3; whnf); repeat ((first | (with_reducible apply sT); rfl | (with_reducible apply sF); rfl | (with_reducible apply sE); rfl); conv => arg 3; whnf)
      by_cases hsk : bclient = cc ∧ bkind ≠ 3
      · refine sat_brT (by simp [hsk.1]) ?_
        (conv => arg 3; whnf); repeat ((first | (with_reducible apply sT); rfl | (with_reducible apply sF); rfl | (with_reducible apply sE); rfl); conv => arg 3; whnf)
        refine sat_brT (by simp [hsk.2]) ?_
        (conv => arg 3; whnf); repeat ((first | (with_reducible apply sT); rfl | (with_reducible apply sF); rfl | (with_reducible apply sE); rfl); conv => arg 3; whnf)
        refine sat_rng (wrap64 (by omega) (by omega)) ?_
        (conv => arg 3; whnf); repeat ((first | (with_reducible apply sT); rfl | (with_reducible apply sF); rfl | (with_reducible apply sE); rfl); conv => arg 3; whnf)
        exact sat_ret ⟨⟨i + 1, l, by omega, inv, hq⟩, rfl, rfl, by show A.length - (i + 1) < A.length - i; omega⟩
      have hq2 := hq2 hsk
      rw [hq] at hq2
      have hag := hAsk.again (l := l2) (by show (l2.q cc).seq = cs; rw [hq2])
      have hag : l2.apply ⟨ck, cc, cs, cn, ce, cy, ch, cd⟩ = (l2, R) := by rw [hag]; show (l2, (l2.q cc).r) = _; rw [hq2]
      rw [hag] at kag
      dsimp only at kag
      refine sat_br (fun h5 => ?_) (fun h5 => ?_)
      focus
        have h5 : bclient = cc := by simpa using h5
        (conv => arg 3; whnf); repeat ((first | (with_reducible apply sT); rfl | (with_reducible apply sF); rfl | (with_reducible apply sE); rfl); conv => arg 3; whnf)
        refine sat_brF (by simp; omega) ?_
        (conv => arg 3; whnf); repeat ((first | (with_reducible apply sT); rfl | (with_reducible apply sF); rfl | (with_reducible apply sE); rfl); conv => arg 3; whnf)
      rotate_left
      focus
        (conv => arg 3; whnf); repeat ((first | (with_reducible apply sT); rfl | (with_reducible apply sF); rfl | (with_reducible apply sE); rfl); conv => arg 3; whnf)
      all_goals
        clear h5
        rw [show List.take bdata.length (List.drop 0 bdata) = bdata by simp]
        refine sat_call ka ?_
        rintro r H' ⟨rfl, rfl⟩
        (conv => arg 3; whnf); repeat ((first | (with_reducible apply sT); rfl | (with_reducible apply sF); rfl | (with_reducible apply sE); rfl); conv => arg 3; whnf)
        refine sat_call kcp ?_
        rintro r H' ⟨rfl, im', hp, rfl⟩
        have ksm := k_same l2 { l2 with im := im' } hi2.1 (hi2.1.perm hp)
        rw [sameB_copy hi2.1 hp] at ksm
        dsimp only [Lg.w] at ksm
        (conv => arg 3; whnf); repeat ((first | (with_reducible apply sT); rfl | (with_reducible apply sF); rfl | (with_reducible apply sE); rfl); conv => arg 3; whnf)
        refine sat_call kg ?_
        rintro r H' ⟨rfl, rfl⟩
        (conv => arg 3; whnf); repeat ((first | (with_reducible apply sT); rfl | (with_reducible apply sF); rfl | (with_reducible apply sE); rfl); conv => arg 3; whnf)
        rw [show List.take cd.length (List.drop 0 cd) = cd by simp]
        refine sat_call kag ?_
        rintro r H' ⟨rfl, rfl⟩
        (conv => arg 3; whnf); repeat ((first | (with_reducible apply sT); rfl | (with_reducible apply sF); rfl | (with_reducible apply sE); rfl); conv => arg 3; whnf)
        refine sat_asrt (by rw [rf]; rfl) ?_
        (conv => arg 3; whnf); repeat ((first | (with_reducible apply sT); rfl | (with_reducible apply sF); rfl | (with_reducible apply sE); rfl); conv => arg 3; whnf)
        refine sat_brF (by rw [re]; rfl) ?_
        (conv => arg 3; whnf); repeat ((first | (with_reducible apply sT); rfl | (with_reducible apply sF); rfl | (with_reducible apply sE); rfl); conv => arg 3; whnf)
        refine sat_call ksm ?_
        rintro r H' ⟨rfl, rfl⟩
        (conv => arg 3; whnf); repeat ((first | (with_reducible apply sT); rfl | (with_reducible apply sF); rfl | (with_reducible apply sE); rfl); conv => arg 3; whnf)
        refine sat_rng (wrap64 (by omega) (by omega)) ?_
        (conv => arg 3; whnf); repeat ((first | (with_reducible apply sT); rfl | (with_reducible apply sF); rfl | (with_reducible apply sE); rfl); conv => arg 3; whnf)
        exact sat_ret ⟨⟨i + 1, l2, by omega, hi2.1, hq2⟩, rfl, rfl, by show A.length - (i + 1) < A.length - i; omega⟩
    · rintro ex fr' H' ⟨rfl, rfl, ⟨i, l, hi, inv, hq⟩, rfl⟩
      have kcp := k_copy l inv
      have hold := hAsk.old (l := l) (by show (l.q cc).seq = cs; rw [hq])
      have hCo2 : Cm.OK ⟨ck, cc, cs - 1, cn, ce, cy, ch, cd⟩ := by
        obtain ⟨c1, c2, c3, c4, c5, c6, c7⟩ := hCo
        exact ⟨c1, c2, c3, ⟨by show -9223372036854775808 ≤ cs - 1; omega, by have := c4.2; dsimp only at this; show cs - 1 ≤ 9223372036854775807; omega⟩, c5, c6, c7⟩
      have hcs : cs ≤ 9223372036854775807 := hCo.hs.2
      have kag := k_apply l inv.inv.ok _ hCo2
      have klq := k_lastq l inv.inv.ok.hn.1 cc hAsk.client
      dsimp only at hold hq
      rw [hold] at kag
      rw [hq] at klq
      dsimp only [Lg.H, Lg.D, Lg.v, Cm.l, Rp.a, Lg.w] at *
      (conv => arg 3; whnf); repeat ((first | (with_reducible apply sT); rfl | (with_reducible apply sF); rfl | (with_reducible apply sE); rfl); conv => arg 3; whnf)
      refine sat_call kcp ?_
      rintro r H' ⟨rfl, im', hp, rfl⟩
      have ksm := k_same l { l with im := im' } inv (inv.perm hp)
      rw [sameB_copy inv hp] at ksm
      dsimp only [Lg.w] at ksm
      (conv => arg 3; whnf); repeat ((first | (with_reducible apply sT); rfl | (with_reducible apply sF); rfl | (with_reducible apply sE); rfl); conv => arg 3; whnf)
      refine sat_call kg ?_
      rintro r H' ⟨rfl, rfl⟩
      (conv => arg 3; whnf); repeat ((first | (with_reducible apply sT); rfl | (with_reducible apply sF); rfl | (with_reducible apply sE); rfl); conv => arg 3; whnf)
      refine sat_rng (wrap64 (by omega) (by omega)) ?_
      (conv => arg 3; whnf); repeat ((first | (with_reducible apply sT); rfl | (with_reducible apply sF); rfl | (with_reducible apply sE); rfl); conv => arg 3; whnf)
      refine sat_br (fun h6 => ?_) (fun h6 => ?_)
      focus
        have h6 : cs - 1 = 0 := by simpa using h6
        rw [if_pos h6] at kag
        (conv => arg 3; whnf); repeat ((first | (with_reducible apply sT); rfl | (with_reducible apply sF); rfl | (with_reducible apply sE); rfl); conv => arg 3; whnf)
      rotate_left
      focus
        have h6 : ¬ cs - 1 = 0 := by simpa using h6
        rw [if_neg h6] at kag
        (conv => arg 3; whnf); repeat ((first | (with_reducible apply sT); rfl | (with_reducible apply sF); rfl | (with_reducible apply sE); rfl); conv => arg 3; whnf)
      all_goals
        refine sat_call klq ?_
        rintro r H' ⟨rfl, rfl⟩
        (conv => arg 3; whnf); repeat ((first | (with_reducible apply sT); rfl | (with_reducible apply sF); rfl | (with_reducible apply sE); rfl); conv => arg 3; whnf)
        rw [show List.take cd.length (List.drop 0 cd) = cd by simp]
        refine sat_call kag ?_
        rintro r H' ⟨rfl, rfl⟩
        (conv => arg 3; whnf); repeat ((first | (with_reducible apply sT); rfl | (with_reducible apply sF); rfl | (with_reducible apply sE); rfl); conv => arg 3; whnf)
        refine sat_asrt (by decide) ?_
        (conv => arg 3; whnf); repeat ((first | (with_reducible apply sT); rfl | (with_reducible apply sF); rfl | (with_reducible apply sE); rfl); conv => arg 3; whnf)
        refine sat_call ksm ?_
        rintro r H' ⟨rfl, rfl⟩
        (conv => arg 3; whnf); repeat ((first | (with_reducible apply sT); rfl | (with_reducible apply sF); rfl | (with_reducible apply sE); rfl); conv => arg 3; whnf)
        refine sat_brT (by simp) ?_
        (conv => arg 3; whnf); repeat ((first | (with_reducible apply sT); rfl | (with_reducible apply sF); rfl | (with_reducible apply sE); rfl); conv => arg 3; whnf)
        refine sat_asrt (by rw [rf]; rfl) ?_
        (conv => arg 3; whnf); repeat ((first | (with_reducible apply sT); rfl | (with_reducible apply sF); rfl | (with_reducible apply sE); rfl); conv => arg 3; whnf)
        exact sat_ret (by rw [re]; rfl)
end Stk
