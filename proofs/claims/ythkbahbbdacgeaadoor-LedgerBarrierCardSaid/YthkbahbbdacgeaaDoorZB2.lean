/- LedgerBarrier: an epoch is active just if every node said yes to it while it was pending. -/
import Derived.Test.YthkbahbbdacgeaaDoorZj11
import Derived.Test.YthkbahbbdacgeaaDoorZOne
namespace Stk
open Go
set_option maxRecDepth 100000
set_option linter.unusedSimpArgs false
set_option linter.unusedVariables false
set_option maxHeartbeats 4000000
theorem kT_fits : ∀ ks : List Int, ((kT ks).all fun p => p.1.fits (.int .i64)) = true
  | [] => rfl
  | k :: r => by
    show ((Tr.int .i64 k).fits (.int .i64) && (kT r).all fun p => p.1.fits (.int .i64)) = true
    rw [kT_fits r]; rfl
theorem set_last {α : Type} (L : List α) (x y : α) : (L ++ [x]).set L.length y = L ++ [y] := by
  rw [List.set_append_right _ _ (Nat.le_refl _), Nat.sub_self]; rfl
structure BarSt (A : List Act) (nn : Int) where
  i : Nat
  l : Lg
  ys : List (List Int)
  no : List Bool
  hi : i ≤ A.length
  hn : l.nodes = nn
  inv : BInv l ys no
abbrev ysM (ys : List (List Int)) : List (AV × Hp) := ys.map fun ks => (.mp 0, [.map (kT ks)])
abbrev bFr (f0 : Bool) (A : List Act) (nn : Int) (x : BarSt A nn) : Fr := [(0, ti nn), (5, pt 0), (7, .sl 3 0 [] 0 x.ys.length none), (8, .sl 4 0 [] 0 x.no.length none), (37, .t (.sl f0 40 (actsT A))), (38, ti A.length), (39, ti x.i)]
abbrev bHs (A : List Act) (nn : Int) (x : BarSt A nn) : Hp := [.var (x.l.v 2), .map (imT x.l.im), .row 37 (x.l.eps.map Ep.t), .dr 1 (ysM x.ys) none, .row 1 (x.no.map Tr.bool)]
theorem l_barrier (x0 x1 : Tr) (h0 : TrD (.int .i64) x0) (h1 : TrD (.sl 40 ActD) x1) : ACalls PP GG F.law23_LedgerBarrier (toAVs [x0, x1]) [] fun r _ => r = .t (.bool true) := by
  obtain ⟨n, rfl, wn⟩ := h0
  obtain ⟨f0, X, rfl, _, hlim, hX⟩ := h1
  obtain ⟨A, rfl, hA⟩ := acts_of hX
  have hXl : (actsT A).length * TyD.bytes ActD ≤ 140737488351232 := hlim
  have el : (actsT A).length = A.length := by simp
  rw [el, show TyD.bytes ActD = 112 from by decide] at hXl
  clear hlim hX
  show ACalls PP GG F.law23_LedgerBarrier [ti n, .t (.sl f0 40 (actsT A))] [] _
  refine K.law23_LedgerBarrier.callsC rfl ?_
  (conv => arg 3; whnf); repeat ((first | (with_reducible apply sT); rfl | (with_reducible apply sF); rfl | (with_reducible apply sE); rfl); conv => arg 3; whnf)
  refine sat_call k_awake ?_
  rintro r H' ⟨rfl, rfl⟩
  (conv => arg 3; whnf); repeat ((first | (with_reducible apply sT); rfl | (with_reducible apply sF); rfl | (with_reducible apply sE); rfl); conv => arg 3; whnf)
  refine sat_call (k_heavy A (by omega)) ?_
  rintro r H' ⟨rfl, rfl⟩
  (conv => arg 3; whnf); repeat ((first | (with_reducible apply sT); rfl | (with_reducible apply sF); rfl | (with_reducible apply sE); rfl); conv => arg 3; whnf)
  refine sat_br (fun hv => ?_) (fun hv => ?_)
  · (conv => arg 3; whnf); repeat ((first | (with_reducible apply sT); rfl | (with_reducible apply sF); rfl | (with_reducible apply sE); rfl); conv => arg 3; whnf)
    exact sat_ret rfl
  obtain ⟨hA4, hAd⟩ := light hA hv
  (conv => arg 3; whnf); repeat ((first | (with_reducible apply sT); rfl | (with_reducible apply sF); rfl | (with_reducible apply sE); rfl); conv => arg 3; whnf)
  refine sat_call (k_nodesOf n) ?_
  rintro r H' ⟨rfl, rfl⟩
  have hno := nodesOf_in n
  generalize nodesOf n = nn at hno ⊢
  (conv => arg 3; whnf); repeat ((first | (with_reducible apply sT); rfl | (with_reducible apply sF); rfl | (with_reducible apply sE); rfl); conv => arg 3; whnf)
  refine sat_call (k_new_l nn hno) ?_
  rintro r H' ⟨rfl, rfl⟩
  have hi0 := BInv.new hno
  have hn0 : (Lg.new nn).nodes = nn := rfl
  generalize hL0 : Lg.new nn = L0 at *
  have he0 : L0.eps = [] := by rw [← hL0]; rfl
  obtain ⟨nodes, im, eps, q1, q2, q3, q4⟩ := L0
  dsimp only at he0 hn0
  subst he0
  (conv => arg 3; whnf); repeat ((first | (with_reducible apply sT); rfl | (with_reducible apply sF); rfl | (with_reducible apply sE); rfl); conv => arg 3; whnf)
  rw [el]
  refine sat_loopOf mkX_ops (σ := BarSt A nn) (bFr f0 A nn) (bHs A nn) (fun x => A.length - x.i) (fun ex fr' H' => ex = .exit 0 ∧ ∃ y : BarSt A nn, fr' = [(0, ti nn), (5, pt 0), (7, .sl 3 0 [] 0 y.ys.length none), (8, .sl 4 0 [] 0 y.no.length none)] ∧ H' = bHs A nn y) ⟨0, ⟨nodes, im, [], q1, q2, q3, q4⟩, [], [], Nat.zero_le _, hn0, hi0⟩ ?_ ?_
  rotate_left
  · rintro ex fr' H' ⟨rfl, ⟨i, l, ys, no, hi, hn, inv⟩, rfl, rfl⟩
    have ke := k_epochs l inv.inv.ok
    have hle := inv.inv.ok.he
    have hly := inv.ly
    have hln := inv.ln
    dsimp only [bHs, Lg.H, Lg.D, Lg.v] at *
    (conv => arg 3; whnf); repeat ((first | (with_reducible apply sT); rfl | (with_reducible apply sF); rfl | (with_reducible apply sE); rfl); conv => arg 3; whnf)
    refine sat_call ke ?_
    rintro r H' ⟨rfl, rfl⟩
    (conv => arg 3; whnf); repeat ((first | (with_reducible apply sT); rfl | (with_reducible apply sF); rfl | (with_reducible apply sE); rfl); conv => arg 3; whnf)
    refine sat_brF (by simp; omega) ?_
    (conv => arg 3; whnf); repeat ((first | (with_reducible apply sT); rfl | (with_reducible apply sF); rfl | (with_reducible apply sE); rfl); conv => arg 3; whnf)
    refine sat_loopOf mkX_ops (σ := { j : Nat // j ≤ l.eps.length }) (fun x => [(0, ti nn), (7, .sl 0 0 [] 0 ys.length none), (8, .sl 1 0 [] 0 no.length none), (124, .sl 2 0 [] 0 l.eps.length none), (125, ti l.eps.length), (126, ti x.1)])
      (fun x => [.dr 1 (ysM ys) none, .row 1 (no.map Tr.bool), .row 37 (l.eps.map Ep.t)]) (fun x => l.eps.length - x.1)
      (fun ex fr' H' => ex = .exit 2 ∧ fr' = [(4, .undef)] ∧ H' = [.dr 1 (ysM ys) none, .row 1 (no.map Tr.bool), .row 37 (l.eps.map Ep.t)]) ⟨0, Nat.zero_le _⟩ ?_ ?_
    rotate_left
    · rintro ex fr' H' ⟨rfl, rfl, rfl⟩
      (conv => arg 3; whnf); repeat ((first | (with_reducible apply sT); rfl | (with_reducible apply sF); rfl | (with_reducible apply sE); rfl); conv => arg 3; whnf)
      exact sat_ret rfl
    rintro ⟨j, hj⟩
    dsimp only
    (conv => arg 3; whnf); repeat ((first | (with_reducible apply sT); rfl | (with_reducible apply sF); rfl | (with_reducible apply sE); rfl); conv => arg 3; whnf)
    refine sat_br (fun h => ?_) (fun h => ?_)
    rotate_left
    · (conv => arg 3; whnf); repeat ((first | (with_reducible apply sT); rfl | (with_reducible apply sF); rfl | (with_reducible apply sE); rfl); conv => arg 3; whnf)
      exact sat_ret ⟨rfl, rfl, rfl⟩
    have h : j < l.eps.length := by have := of_decide_eq_true h; omega
    have hv := List.getElem?_eq_getElem (l := l.eps) (i := j) h
    have hks := List.getElem?_eq_getElem (l := ys) (i := j) (by omega)
    have hnl := List.getElem?_eq_getElem (l := no) (i := j) (by omega)
    have hbe := inv.each j _ _ _ hv hks hnl
    have hyl := inv.inv.ok.hy _ (List.mem_of_getElem? hv)
    generalize l.eps[j] = u at *
    generalize ys[j] = ks at *
    generalize no[j] = b at *
    have hvt : (l.eps.map Ep.t)[0 + j]? = some u.t := by rw [Nat.zero_add, List.getElem?_map, hv]; rfl
    (conv => arg 3; whnf); repeat ((first | (with_reducible apply sT); rfl | (with_reducible apply sF); rfl | (with_reducible apply sE); rfl); conv => arg 3; whnf)
    refine sat_asrt (decide_eq_true (by omega)) ?_
    rw [Int.toNat_natCast]
    (conv => arg 3; whnf); repeat ((first | (with_reducible apply sT); rfl | (with_reducible apply sF); rfl | (with_reducible apply sE); rfl); conv => arg 3; whnf)
    refine sat_idx u.t (by omega) (by rw [Int.toNat_natCast]; exact hvt) ?_
    (conv => arg 3; whnf); repeat ((first | (with_reducible apply sT); rfl | (with_reducible apply sF); rfl | (with_reducible apply sE); rfl); conv => arg 3; whnf)
    refine sat_asrt (decide_eq_true (by omega)) ?_
    rw [Int.toNat_natCast]
    (conv => arg 3; whnf); repeat ((first | (with_reducible apply sT); rfl | (with_reducible apply sF); rfl | (with_reducible apply sE); rfl); conv => arg 3; whnf)
    refine ⟨.mp 0, [.map (kT ks)], by rw [List.getElem?_map, Nat.zero_add, hks]; rfl, ?_⟩
    (conv => arg 3; whnf); repeat ((first | (with_reducible apply sT); rfl | (with_reducible apply sF); rfl | (with_reducible apply sE); rfl); conv => arg 3; whnf)
    refine sat_asrt (decide_eq_true (by omega)) ?_
    rw [Int.toNat_natCast]
    (conv => arg 3; whnf); repeat ((first | (with_reducible apply sT); rfl | (with_reducible apply sF); rfl | (with_reducible apply sE); rfl); conv => arg 3; whnf)
    refine sat_idx (Tr.bool b) (by omega) (by rw [Int.toNat_natCast, Nat.zero_add, List.getElem?_map, hnl]; rfl) ?_
    (conv => arg 3; whnf); repeat ((first | (with_reducible apply sT); rfl | (with_reducible apply sF); rfl | (with_reducible apply sE); rfl); conv => arg 3; whnf)
    have hkl : (kT ks).length = ks.length := by simp
    have hbt := hbe.ph3
    have hbf := hbe.ph2
    rw [hn] at hbt hbf
    have hno1 : (0 : Int) + (j : Int) = j := by omega
    refine sat_br (fun hb => ?_) (fun hb => ?_)
    focus
      subst hb
      obtain ⟨p3, pk⟩ := hbt rfl
      (conv => arg 3; whnf); repeat ((first | (with_reducible apply sT); rfl | (with_reducible apply sF); rfl | (with_reducible apply sE); rfl); conv => arg 3; whnf)
      refine sat_brF (by simp [p3]) ?_
      (conv => arg 3; whnf); repeat ((first | (with_reducible apply sT); rfl | (with_reducible apply sF); rfl | (with_reducible apply sE); rfl); conv => arg 3; whnf)
      refine sat_asrt (decide_eq_true (by omega)) ?_
      rw [Int.toNat_natCast]
      (conv => arg 3; whnf); repeat ((first | (with_reducible apply sT); rfl | (with_reducible apply sF); rfl | (with_reducible apply sE); rfl); conv => arg 3; whnf)
      refine sat_idx (Tr.bool true) (by omega) (by rw [Int.toNat_natCast, Nat.zero_add, List.getElem?_map, hnl]; rfl) ?_
      (conv => arg 3; whnf); repeat ((first | (with_reducible apply sT); rfl | (with_reducible apply sF); rfl | (with_reducible apply sE); rfl); conv => arg 3; whnf)
      refine sat_brF (by simp; omega) ?_
      (conv => arg 3; whnf); repeat ((first | (with_reducible apply sT); rfl | (with_reducible apply sF); rfl | (with_reducible apply sE); rfl); conv => arg 3; whnf)
    rotate_left
    focus
      subst hb
      have pf := hbf rfl
      (conv => arg 3; whnf); repeat ((first | (with_reducible apply sT); rfl | (with_reducible apply sF); rfl | (with_reducible apply sE); rfl); conv => arg 3; whnf)
      refine sat_br (fun hk => ?_) (fun hk => ?_)
      focus
        have hk : (ks.length : Int) = nn := by simpa using hk
        rw [if_pos hk] at pf
        (conv => arg 3; whnf); repeat ((first | (with_reducible apply sT); rfl | (with_reducible apply sF); rfl | (with_reducible apply sE); rfl); conv => arg 3; whnf)
      rotate_left
      focus
        have hk : ¬ (ks.length : Int) = nn := by simpa using hk
        rw [if_neg hk] at pf
        (conv => arg 3; whnf); repeat ((first | (with_reducible apply sT); rfl | (with_reducible apply sF); rfl | (with_reducible apply sE); rfl); conv => arg 3; whnf)
      all_goals
        refine sat_brF (by simp [pf]) ?_
        (conv => arg 3; whnf); repeat ((first | (with_reducible apply sT); rfl | (with_reducible apply sF); rfl | (with_reducible apply sE); rfl); conv => arg 3; whnf)
        refine sat_asrt (decide_eq_true (by omega)) ?_
        rw [Int.toNat_natCast]
        (conv => arg 3; whnf); repeat ((first | (with_reducible apply sT); rfl | (with_reducible apply sF); rfl | (with_reducible apply sE); rfl); conv => arg 3; whnf)
        refine sat_idx (Tr.bool false) (by omega) (by rw [Int.toNat_natCast, Nat.zero_add, List.getElem?_map, hnl]; rfl) ?_
        (conv => arg 3; whnf); repeat ((first | (with_reducible apply sT); rfl | (with_reducible apply sF); rfl | (with_reducible apply sE); rfl); conv => arg 3; whnf)
    all_goals
      rw [set_self (l := ysM ys) (i := 0 + j) (x := (AV.mp 0, [AO.map (kT ks)])) (by rw [List.getElem?_map, Nat.zero_add, hks]; rfl)]
      refine sat_loopOf mkX_ops (σ := { m : Nat // m ≤ 4 }) (fun x => [(0, ti nn), (7, .sl 0 0 [] 0 ys.length none), (8, .sl 1 0 [] 0 no.length none), (15, ti j), (16, pt 2), (124, .sl 3 0 [] 0 l.eps.length none), (125, ti l.eps.length), (126, ti j), (158, ti x.1)])
        (fun x => [.dr 1 (ysM ys) none, .row 1 (no.map Tr.bool), .var (.t u.t), .row 37 (l.eps.map Ep.t)]) (fun x => 4 - x.1)
        (fun ex fr' H' => ex = .exit 5 ∧ fr' = [(0, ti nn), (4, .undef), (7, .sl 0 0 [] 0 ys.length none), (8, .sl 1 0 [] 0 no.length none), (124, .sl 3 0 [] 0 l.eps.length none), (125, ti l.eps.length), (126, ti j)] ∧ H' = [.dr 1 (ysM ys) none, .row 1 (no.map Tr.bool), .var (.t u.t), .row 37 (l.eps.map Ep.t)]) ⟨0, by decide⟩ ?_ ?_
      · rintro ⟨m, hm⟩
        dsimp only
        (conv => arg 3; whnf); repeat ((first | (with_reducible apply sT); rfl | (with_reducible apply sF); rfl | (with_reducible apply sE); rfl); conv => arg 3; whnf)
        refine sat_br (fun h6 => ?_) (fun h6 => ?_)
        rotate_left
        · (conv => arg 3; whnf); repeat ((first | (with_reducible apply sT); rfl | (with_reducible apply sF); rfl | (with_reducible apply sE); rfl); conv => arg 3; whnf)
          exact sat_ret ⟨rfl, rfl, rfl⟩
        have h6 : m < 4 := by have := of_decide_eq_true h6; omega
        have hym := List.getElem?_eq_getElem (l := u.yes) (i := m) (by rw [hyl]; exact h6)
        have hmm := hbe.mem m h6
        generalize u.yes[m]'_ = vv at hym
        rw [hym] at hmm
        (conv => arg 3; whnf); repeat ((first | (with_reducible apply sT); rfl | (with_reducible apply sF); rfl | (with_reducible apply sE); rfl); conv => arg 3; whnf)
        refine sat_asrt (decide_eq_true (by omega)) ?_
        rw [Int.toNat_natCast]
        (conv => arg 3; whnf); repeat ((first | (with_reducible apply sT); rfl | (with_reducible apply sF); rfl | (with_reducible apply sE); rfl); conv => arg 3; whnf)
        refine sat_idx (Tr.bool vv) (by omega) (by rw [Int.toNat_natCast, List.getElem?_map, hym]; rfl) ?_
        (conv => arg 3; whnf); repeat ((first | (with_reducible apply sT); rfl | (with_reducible apply sF); rfl | (with_reducible apply sE); rfl); conv => arg 3; whnf)
        refine sat_asrt (decide_eq_true (by omega)) ?_
        rw [Int.toNat_natCast]
        (conv => arg 3; whnf); repeat ((first | (with_reducible apply sT); rfl | (with_reducible apply sF); rfl | (with_reducible apply sE); rfl); conv => arg 3; whnf)
        refine sat_rng (wrap64 (by omega) (by omega)) ?_
        (conv => arg 3; whnf); repeat ((first | (with_reducible apply sT); rfl | (with_reducible apply sF); rfl | (with_reducible apply sE); rfl); conv => arg 3; whnf)
        refine ⟨.mp 0, [.map (kT ks)], by rw [List.getElem?_map, Nat.zero_add, hks]; rfl, ?_⟩
        (conv => arg 3; whnf); repeat ((first | (with_reducible apply sT); rfl | (with_reducible apply sF); rfl | (with_reducible apply sE); rfl); conv => arg 3; whnf)
        refine sat_asrt (decide_eq_true (by omega)) ?_
        try rw [Int.toNat_natCast]
        (conv => arg 3; whnf); repeat ((first | (with_reducible apply sT); rfl | (with_reducible apply sF); rfl | (with_reducible apply sE); rfl); conv => arg 3; whnf)
        refine sat_idx (Tr.bool vv) (by omega) (by rw [Int.toNat_natCast, List.getElem?_map, hym]; rfl) ?_
        (conv => arg 3; whnf); repeat ((first | (with_reducible apply sT); rfl | (with_reducible apply sF); rfl | (with_reducible apply sE); rfl); conv => arg 3; whnf)
        refine sat_rng (wrap64 (by omega) (by omega)) ?_
        (conv => arg 3; whnf); repeat ((first | (with_reducible apply sT); rfl | (with_reducible apply sF); rfl | (with_reducible apply sE); rfl); conv => arg 3; whnf)
        refine sat_asrt (by rw [kT_fits]; rfl) ?_
        rw [mfind_kT]
        have hcmp : vv = decide (((m : Int) + 1) ∈ ks) := by
          cases vv with
          | true => exact (decide_eq_true (hmm.1 rfl)).symm
          | false => exact (decide_eq_false (fun h => by have := hmm.2 h; cases this)).symm
        by_cases hin : ((m : Int) + 1) ∈ ks
        · rw [if_pos hin]
          rw [decide_eq_true hin] at hcmp
          (conv => arg 3; whnf); repeat ((first | (with_reducible apply sT); rfl | (with_reducible apply sF); rfl | (with_reducible apply sE); rfl); conv => arg 3; whnf)
          refine sat_brF (by rw [hcmp]; rfl) ?_
          (conv => arg 3; whnf); repeat ((first | (with_reducible apply sT); rfl | (with_reducible apply sF); rfl | (with_reducible apply sE); rfl); conv => arg 3; whnf)
          refine sat_rng (wrap64 (by omega) (by omega)) ?_
          (conv => arg 3; whnf); repeat ((first | (with_reducible apply sT); rfl | (with_reducible apply sF); rfl | (with_reducible apply sE); rfl); conv => arg 3; whnf)
          refine sat_ret ⟨⟨m + 1, by omega⟩, rfl, ?_, by show 4 - (m + 1) < 4 - m; omega⟩
          rw [set_self (l := ysM ys) (i := 0 + j) (x := (AV.mp 0, [AO.map (kT ks)])) (by rw [List.getElem?_map, Nat.zero_add, hks]; rfl)]
        · rw [if_neg hin]
          rw [decide_eq_false hin] at hcmp
          (conv => arg 3; whnf); repeat ((first | (with_reducible apply sT); rfl | (with_reducible apply sF); rfl | (with_reducible apply sE); rfl); conv => arg 3; whnf)
          refine sat_brF (by rw [hcmp]; rfl) ?_
          (conv => arg 3; whnf); repeat ((first | (with_reducible apply sT); rfl | (with_reducible apply sF); rfl | (with_reducible apply sE); rfl); conv => arg 3; whnf)
          refine sat_rng (wrap64 (by omega) (by omega)) ?_
          (conv => arg 3; whnf); repeat ((first | (with_reducible apply sT); rfl | (with_reducible apply sF); rfl | (with_reducible apply sE); rfl); conv => arg 3; whnf)
          refine sat_ret ⟨⟨m + 1, by omega⟩, rfl, ?_, by show 4 - (m + 1) < 4 - m; omega⟩
          rw [set_self (l := ysM ys) (i := 0 + j) (x := (AV.mp 0, [AO.map (kT ks)])) (by rw [List.getElem?_map, Nat.zero_add, hks]; rfl)]
      · rintro ex fr' H' ⟨rfl, rfl, rfl⟩
        (conv => arg 3; whnf); repeat ((first | (with_reducible apply sT); rfl | (with_reducible apply sF); rfl | (with_reducible apply sE); rfl); conv => arg 3; whnf)
        refine sat_rng (wrap64 (by omega) (by omega)) ?_
        (conv => arg 3; whnf); repeat ((first | (with_reducible apply sT); rfl | (with_reducible apply sF); rfl | (with_reducible apply sE); rfl); conv => arg 3; whnf)
        exact sat_ret ⟨⟨j + 1, by omega⟩, rfl, rfl, by show l.eps.length - (j + 1) < l.eps.length - j; omega⟩
  rintro ⟨i, l, ys, no, hi, hn, inv⟩
  dsimp only [bFr, bHs]
  (conv => arg 3; whnf); repeat ((first | (with_reducible apply sT); rfl | (with_reducible apply sF); rfl | (with_reducible apply sE); rfl); conv => arg 3; whnf)
  refine sat_br (fun h => ?_) (fun h => ?_)
  rotate_left
  · (conv => arg 3; whnf); repeat ((first | (with_reducible apply sT); rfl | (with_reducible apply sF); rfl | (with_reducible apply sE); rfl); conv => arg 3; whnf)
    exact sat_ret ⟨rfl, ⟨i, l, ys, no, hi, hn, inv⟩, rfl, rfl⟩
  have h : i < A.length := by have := of_decide_eq_true h; omega
  have hu : A[i]? = some A[i] := List.getElem?_eq_getElem h
  generalize A[i] = a at hu
  have hak := hA a (List.mem_of_getElem? hu)
  have hac := Act.cmd_ok hak (hAd a (List.mem_of_getElem? hu))
  have kc := k_cmd a hak
  have hst := LStep.apply inv.inv hac
  have ka := k_apply l inv.inv.ok a.cmd hac
  have kp := k_pending l inv.inv.ok.hn.1 (by have := inv.inv.ok.he; omega)
  have b1 := inv.grown hac
  have b2 := inv.quiet hac
  have b3 := inv.no hac
  have b5 : IsAck a.cmd l.nodes (lastE 1 l.eps l.eps.length) ys.length → lastE 1 l.eps l.eps.length = l.eps.length ∧ 0 < l.eps.length := fun h => by obtain ⟨_, _, _, h1, h2, _⟩ := ack_eq inv h; exact ⟨h1, h2⟩
  have b4 := fun ha hy ks hk => inv.yes hac ha hy (ks := ks) hk
  generalize a.cmd = C at *
  generalize l.apply C = R at *
  obtain ⟨l', rp⟩ := R
  have hln := inv.ln
  have hly := inv.ly
  have hle := inv.inv.ok.he
  obtain ⟨⟨kind, client, seq, node, epoch, yes, hash, data⟩, f, pick⟩ := a
  obtain ⟨ckind, cclient, cseq, cnode, cepoch, cyes, chash, cdata⟩ := C
  obtain ⟨nodes', im', eps', q1', q2', q3', q4'⟩ := l'
  obtain ⟨lnodes, lim, leps, lq1, lq2, lq3, lq4⟩ := l
  obtain ⟨rc, re, rh⟩ := rp
  have hn' := hst.nodes
  dsimp only at hn hn'
  subst hn
  subst hn'
  dsimp only [Lg.H, Lg.D, Lg.v, Cm.l, Cm.o, Act.l, Rp.a, IsNew, IsAck] at *
  (conv => arg 3; whnf); repeat ((first | (with_reducible apply sT); rfl | (with_reducible apply sF); rfl | (with_reducible apply sE); rfl); conv => arg 3; whnf)
  refine sat_idx (Act.t ⟨⟨kind, client, seq, node, epoch, yes, hash, data⟩, f, pick⟩) (by omega) (by rw [Int.toNat_natCast, List.getElem?_map, hu]; rfl) ?_
  (conv => arg 3; whnf); repeat ((first | (with_reducible apply sT); rfl | (with_reducible apply sF); rfl | (with_reducible apply sE); rfl); conv => arg 3; whnf)
  refine sat_call kc ?_
  rintro r H' ⟨rfl, rfl⟩
  (conv => arg 3; whnf); repeat ((first | (with_reducible apply sT); rfl | (with_reducible apply sF); rfl | (with_reducible apply sE); rfl); conv => arg 3; whnf)
  refine sat_call kp ?_
  rintro r H' ⟨rfl, rfl⟩
  (conv => arg 3; whnf); repeat ((first | (with_reducible apply sT); rfl | (with_reducible apply sF); rfl | (with_reducible apply sE); rfl); conv => arg 3; whnf)
  rw [show List.take cdata.length (List.drop 0 cdata) = cdata by simp]
  refine sat_call ka ?_
  rintro r H' ⟨rfl, rfl⟩
  (conv => arg 3; whnf); repeat ((first | (with_reducible apply sT); rfl | (with_reducible apply sF); rfl | (with_reducible apply sE); rfl); conv => arg 3; whnf)
  by_cases hN : ckind = 2 ∧ rc = 0 ∧ re = (ys.length : Int) + 1
  · obtain ⟨e1, e2, e3⟩ := hN
    have hg := b1 ⟨e1, e2, e3⟩
    clear b1 b2 b3 b4
    refine sat_brT (by simp [e1]) ?_
    (conv => arg 3; whnf); repeat ((first | (with_reducible apply sT); rfl | (with_reducible apply sF); rfl | (with_reducible apply sE); rfl); conv => arg 3; whnf)
    refine sat_brT (by simp [e2]) ?_
    (conv => arg 3; whnf); repeat ((first | (with_reducible apply sT); rfl | (with_reducible apply sF); rfl | (with_reducible apply sE); rfl); conv => arg 3; whnf)
    refine sat_rng (wrap64 (by omega) (by omega)) ?_
    (conv => arg 3; whnf); repeat ((first | (with_reducible apply sT); rfl | (with_reducible apply sF); rfl | (with_reducible apply sE); rfl); conv => arg 3; whnf)
    refine sat_brT (by simp [e3]) ?_
    (conv => arg 3; whnf); repeat ((first | (with_reducible apply sT); rfl | (with_reducible apply sF); rfl | (with_reducible apply sE); rfl); conv => arg 3; whnf)
    refine sat_asrt (by simp) ?_
    (conv => arg 3; whnf); repeat ((first | (with_reducible apply sT); rfl | (with_reducible apply sF); rfl | (with_reducible apply sE); rfl); conv => arg 3; whnf)
    refine sat_asrt (by simp [roomy]; omega) ?_
    (conv => arg 3; whnf); repeat ((first | (with_reducible apply sT); rfl | (with_reducible apply sF); rfl | (with_reducible apply sE); rfl); conv => arg 3; whnf)
    refine sat_asrt (by simp) ?_
    (conv => arg 3; whnf); repeat ((first | (with_reducible apply sT); rfl | (with_reducible apply sF); rfl | (with_reducible apply sE); rfl); conv => arg 3; whnf)
    refine sat_asrt (by simp [roomy]; omega) ?_
    (conv => arg 3; whnf); repeat ((first | (with_reducible apply sT); rfl | (with_reducible apply sF); rfl | (with_reducible apply sE); rfl); conv => arg 3; whnf)
    refine sat_brT (by simp) ?_
    (conv => arg 3; whnf); repeat ((first | (with_reducible apply sT); rfl | (with_reducible apply sF); rfl | (with_reducible apply sE); rfl); conv => arg 3; whnf)
    refine sat_brF (by simp [e1]) ?_
    (conv => arg 3; whnf); repeat ((first | (with_reducible apply sT); rfl | (with_reducible apply sF); rfl | (with_reducible apply sE); rfl); conv => arg 3; whnf)
    refine sat_rng (wrap64 (by omega) (by omega)) ?_
    (conv => arg 3; whnf); repeat ((first | (with_reducible apply sT); rfl | (with_reducible apply sF); rfl | (with_reducible apply sE); rfl); conv => arg 3; whnf)
    refine sat_ret ⟨⟨i + 1, ⟨nodes', im', eps', q1', q2', q3', q4'⟩, ys ++ [[]], no ++ [false], by omega, rfl, hg⟩, ?_, ?_, by show A.length - (i + 1) < A.length - i; omega⟩
    · simp [bFr]
      rfl
    · rw [set_last]
      simp [bHs, Lg.v, ysM]
  have hq := b2 (by omega)
  clear b1 b2
  refine sat_br (fun g1 => ?_) (fun g1 => ?_)
  focus
    (conv => arg 3; whnf); repeat ((first | (with_reducible apply sT); rfl | (with_reducible apply sF); rfl | (with_reducible apply sE); rfl); conv => arg 3; whnf)
    refine sat_br (fun g2 => ?_) (fun g2 => ?_)
    focus
      (conv => arg 3; whnf); repeat ((first | (with_reducible apply sT); rfl | (with_reducible apply sF); rfl | (with_reducible apply sE); rfl); conv => arg 3; whnf)
      refine sat_rng (wrap64 (by omega) (by omega)) ?_
      (conv => arg 3; whnf); repeat ((first | (with_reducible apply sT); rfl | (with_reducible apply sF); rfl | (with_reducible apply sE); rfl); conv => arg 3; whnf)
      have g1 : ckind = 2 := by simpa using g1
      have g2 : rc = 0 := by simpa using g2
      refine sat_brF (by simp; omega) ?_
      (conv => arg 3; whnf); repeat ((first | (with_reducible apply sT); rfl | (with_reducible apply sF); rfl | (with_reducible apply sE); rfl); conv => arg 3; whnf)
    rotate_left
    focus
      (conv => arg 3; whnf); repeat ((first | (with_reducible apply sT); rfl | (with_reducible apply sF); rfl | (with_reducible apply sE); rfl); conv => arg 3; whnf)
  rotate_left 2
  focus
    (conv => arg 3; whnf); repeat ((first | (with_reducible apply sT); rfl | (with_reducible apply sF); rfl | (with_reducible apply sE); rfl); conv => arg 3; whnf)
  all_goals
    clear g1
    by_cases hA : ckind = 3 ∧ 1 ≤ cnode ∧ cnode ≤ nodes' ∧ cepoch = (lastE 1 leps leps.length : Nat) ∧ 0 < lastE 1 leps leps.length ∧ lastE 1 leps leps.length ≤ ys.length
    · obtain ⟨e5, e6⟩ := b5 hA
      obtain ⟨a1, a2, a3, a4, a5, a6⟩ := hA
      refine sat_brT (by simp [a1]) ?_
      (conv => arg 3; whnf); repeat ((first | (with_reducible apply sT); rfl | (with_reducible apply sF); rfl | (with_reducible apply sE); rfl); conv => arg 3; whnf)
      refine sat_brT (by simp; omega) ?_
      (conv => arg 3; whnf); repeat ((first | (with_reducible apply sT); rfl | (with_reducible apply sF); rfl | (with_reducible apply sE); rfl); conv => arg 3; whnf)
      refine sat_brT (by simp; omega) ?_
      (conv => arg 3; whnf); repeat ((first | (with_reducible apply sT); rfl | (with_reducible apply sF); rfl | (with_reducible apply sE); rfl); conv => arg 3; whnf)
      refine sat_brT (by simp; omega) ?_
      (conv => arg 3; whnf); repeat ((first | (with_reducible apply sT); rfl | (with_reducible apply sF); rfl | (with_reducible apply sE); rfl); conv => arg 3; whnf)
      refine sat_brT (by simp; omega) ?_
      (conv => arg 3; whnf); repeat ((first | (with_reducible apply sT); rfl | (with_reducible apply sF); rfl | (with_reducible apply sE); rfl); conv => arg 3; whnf)
      refine sat_brT (by simp; omega) ?_
      (conv => arg 3; whnf); repeat ((first | (with_reducible apply sT); rfl | (with_reducible apply sF); rfl | (with_reducible apply sE); rfl); conv => arg 3; whnf)
      refine sat_br (fun g3 => ?_) (fun g3 => ?_)
      · have hks := List.getElem?_eq_getElem (l := ys) (i := leps.length - 1) (by omega)
        generalize ys[leps.length - 1] = ks at hks
        have hg := (b4 ⟨a1, a2, a3, a4, a5, a6⟩ g3 ks hks).2
        (conv => arg 3; whnf); repeat ((first | (with_reducible apply sT); rfl | (with_reducible apply sF); rfl | (with_reducible apply sE); rfl); conv => arg 3; whnf)
        refine sat_rng (wrap64 (by omega) (by omega)) ?_
        (conv => arg 3; whnf); repeat ((first | (with_reducible apply sT); rfl | (with_reducible apply sF); rfl | (with_reducible apply sE); rfl); conv => arg 3; whnf)
        refine sat_asrt (decide_eq_true (by omega)) ?_
        (conv => arg 3; whnf); repeat ((first | (with_reducible apply sT); rfl | (with_reducible apply sF); rfl | (with_reducible apply sE); rfl); conv => arg 3; whnf)
        refine ⟨.mp 0, [.map (kT ks)], by rw [List.getElem?_map, show 0 + ((lastE 1 leps leps.length : Nat) - 1 : Int).toNat = leps.length - 1 by omega, hks]; rfl, ?_⟩
        (conv => arg 3; whnf); repeat ((first | (with_reducible apply sT); rfl | (with_reducible apply sF); rfl | (with_reducible apply sE); rfl); conv => arg 3; whnf)
        refine sat_asrt (by rw [kT_fits]; rfl) ?_
        rw [mput_kT]
        (conv => arg 3; whnf); repeat ((first | (with_reducible apply sT); rfl | (with_reducible apply sF); rfl | (with_reducible apply sE); rfl); conv => arg 3; whnf)
        refine sat_rng (wrap64 (by omega) (by omega)) ?_
        (conv => arg 3; whnf); repeat ((first | (with_reducible apply sT); rfl | (with_reducible apply sF); rfl | (with_reducible apply sE); rfl); conv => arg 3; whnf)
        refine sat_ret ⟨⟨i + 1, ⟨nodes', im', eps', q1', q2', q3', q4'⟩, ys.set (leps.length - 1) (addK cnode ks), no, by omega, rfl, hg⟩, ?_, ?_, by show A.length - (i + 1) < A.length - i; omega⟩
        · simp [bFr]
          rfl
        · rw [show 0 + ((lastE 1 leps leps.length : Nat) - 1 : Int).toNat = leps.length - 1 by omega]
          simp [bHs, Lg.v, ysM]
      · have hg := (b3 ⟨a1, a2, a3, a4, a5, a6⟩ g3).2
        (conv => arg 3; whnf); repeat ((first | (with_reducible apply sT); rfl | (with_reducible apply sF); rfl | (with_reducible apply sE); rfl); conv => arg 3; whnf)
        refine sat_rng (wrap64 (by omega) (by omega)) ?_
        (conv => arg 3; whnf); repeat ((first | (with_reducible apply sT); rfl | (with_reducible apply sF); rfl | (with_reducible apply sE); rfl); conv => arg 3; whnf)
        refine sat_asrt (decide_eq_true (by omega)) ?_
        (conv => arg 3; whnf); repeat ((first | (with_reducible apply sT); rfl | (with_reducible apply sF); rfl | (with_reducible apply sE); rfl); conv => arg 3; whnf)
        have hnl := List.getElem?_eq_getElem (l := no) (i := leps.length - 1) (by omega)
        generalize no[leps.length - 1] = b0 at hnl
        have hid : 0 + ((lastE 1 leps leps.length : Nat) - 1 : Int).toNat = leps.length - 1 := by omega
        refine sat_idx (Tr.bool b0) (by omega) (by rw [Int.toNat_natCast, hid, List.getElem?_map, hnl]; rfl) ?_
        (conv => arg 3; whnf); repeat ((first | (with_reducible apply sT); rfl | (with_reducible apply sF); rfl | (with_reducible apply sE); rfl); conv => arg 3; whnf)
        refine sat_rng (wrap64 (by omega) (by omega)) ?_
        (conv => arg 3; whnf); repeat ((first | (with_reducible apply sT); rfl | (with_reducible apply sF); rfl | (with_reducible apply sE); rfl); conv => arg 3; whnf)
        refine sat_ret ⟨⟨i + 1, ⟨nodes', im', eps', q1', q2', q3', q4'⟩, ys, no.set (leps.length - 1) true, by omega, rfl, hg⟩, ?_, ?_, by show A.length - (i + 1) < A.length - i; omega⟩
        · simp [bFr]
          rfl
        · rw [hid]
          simp [bHs, Lg.v, ysM]
    · have hg := hq hA
      refine sat_br (fun g4 => ?_) (fun g4 => ?_)
      focus
        (conv => arg 3; whnf); repeat ((first | (with_reducible apply sT); rfl | (with_reducible apply sF); rfl | (with_reducible apply sE); rfl); conv => arg 3; whnf)
        refine sat_br (fun g5 => ?_) (fun g5 => ?_)
        focus
          (conv => arg 3; whnf); repeat ((first | (with_reducible apply sT); rfl | (with_reducible apply sF); rfl | (with_reducible apply sE); rfl); conv => arg 3; whnf)
          refine sat_br (fun g6 => ?_) (fun g6 => ?_)
          focus
            (conv => arg 3; whnf); repeat ((first | (with_reducible apply sT); rfl | (with_reducible apply sF); rfl | (with_reducible apply sE); rfl); conv => arg 3; whnf)
            refine sat_br (fun g7 => ?_) (fun g7 => ?_)
            focus
              (conv => arg 3; whnf); repeat ((first | (with_reducible apply sT); rfl | (with_reducible apply sF); rfl | (with_reducible apply sE); rfl); conv => arg 3; whnf)
              refine sat_br (fun g8 => ?_) (fun g8 => ?_)
              focus
                (conv => arg 3; whnf); repeat ((first | (with_reducible apply sT); rfl | (with_reducible apply sF); rfl | (with_reducible apply sE); rfl); conv => arg 3; whnf)
                refine sat_brF ?_ ?_
                · simp at g4 g5 g6 g7 g8 ⊢
                  exact Nat.lt_of_not_le fun hh => hA ⟨g4, g5, g6, g7, g8, hh⟩
                (conv => arg 3; whnf); repeat ((first | (with_reducible apply sT); rfl | (with_reducible apply sF); rfl | (with_reducible apply sE); rfl); conv => arg 3; whnf)
              rotate_left
              focus (conv => arg 3; whnf); repeat ((first | (with_reducible apply sT); rfl | (with_reducible apply sF); rfl | (with_reducible apply sE); rfl); conv => arg 3; whnf)
            rotate_left 2
            focus (conv => arg 3; whnf); repeat ((first | (with_reducible apply sT); rfl | (with_reducible apply sF); rfl | (with_reducible apply sE); rfl); conv => arg 3; whnf)
          rotate_left 3
          focus (conv => arg 3; whnf); repeat ((first | (with_reducible apply sT); rfl | (with_reducible apply sF); rfl | (with_reducible apply sE); rfl); conv => arg 3; whnf)
        rotate_left 4
        focus (conv => arg 3; whnf); repeat ((first | (with_reducible apply sT); rfl | (with_reducible apply sF); rfl | (with_reducible apply sE); rfl); conv => arg 3; whnf)
      rotate_left 5
      focus (conv => arg 3; whnf); repeat ((first | (with_reducible apply sT); rfl | (with_reducible apply sF); rfl | (with_reducible apply sE); rfl); conv => arg 3; whnf)
      all_goals
        refine sat_rng (wrap64 (by omega) (by omega)) ?_
        (conv => arg 3; whnf); repeat ((first | (with_reducible apply sT); rfl | (with_reducible apply sF); rfl | (with_reducible apply sE); rfl); conv => arg 3; whnf)
        refine sat_ret ⟨⟨i + 1, ⟨nodes', im', eps', q1', q2', q3', q4'⟩, ys, no, by omega, rfl, hg⟩, rfl, rfl, by show A.length - (i + 1) < A.length - i; omega⟩
end Stk
